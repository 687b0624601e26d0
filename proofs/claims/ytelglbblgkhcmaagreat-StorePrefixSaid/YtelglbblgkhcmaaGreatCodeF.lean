/-
  The walks of package code's reader, below its calls that recover: int, bool, count, text, small.
-/
import Derived.Test.YtelglbblgkhcmaaGreatCodeE
namespace Go.Proofs.YtelglbblgkhcmaaGreat
open Go.RowKit

theorem Rdr.cell {w : World} {g : Nat} {l : List UInt8} (h : Rdr w g (some l)) : ∃ A c, Holds w g 149 #[.slice A l.length c, .bool false] ∧ w.cell? ⟨g, 0, none⟩ = some (.slice A l.length c) ∧ w.frozen? ⟨g, 0, none⟩ = false ∧ l.length ≤ 100000000000 ∧ l.length ≤ c ∧ Bytes w w.heap.size A l ∧ ∀ a, A = some a → a.block < g := by
  obtain ⟨A, n, c, h1, h2, h3⟩ := h
  obtain ⟨rfl, h4, h5, h6⟩ := h3 l rfl
  exact ⟨A, c, h1, by rw [h1.cell 0]; rfl, h1.frozen 0, h2, h4, h5, h6⟩

set_option maxRecDepth 100000 in
set_option maxHeartbeats 800000 in
theorem bool_reads (w : World) (g : Nat) (l : List UInt8) (h : Rdr w g (some l)) :
    Calls Tryz.prog 80 #[.pointer (some ⟨g, 0, none⟩)] w (Read w g (fun _ (b : Bool) v => v = .bool b) (boolR l)) := by
  rcases l with _ | ⟨b, l⟩
  · go_enter Tryz.func80, Tryz.ntmps80
    go_wp2_with fail
    refine (one_no _ g h).mono ?_
    rintro e w2 ⟨⟨s, rfl⟩, rfl⟩
    go_wp2_with fail
    exact ⟨rfl, Read.no (Writes.refl _ _) rfl s h.jnk⟩
  · have hb := b.toNat_lt
    go_enter Tryz.func80, Tryz.ntmps80
    go_wp2_with fail
    refine (one_ok _ g b l h).mono ?_
    rintro e w2 ⟨rfl, hr2, hM2⟩
    have hr2 := Lib.hid hr2
    have hM2 := Lib.hid hM2
    by_cases h1 : 1 < b.toNat
    · have hno := Lib.hid (show boolR (b :: l) = none by rw [boolR, if_pos h1])
      go_wp2_with fail
      exact ⟨rfl, Read.no hM2.out hno.out _ hr2.out.jnk⟩
    · have hyes := Lib.hid (show boolR (b :: l) = some (b.toNat == 1, l) by rw [boolR, if_neg h1])
      go_wp2_with fail
      go_ret
      exact Read.ok hM2.out hyes.out (show Value.bool _ = .bool _ by congr 1; rw [Bool.eq_iff_iff]; simp; omega) hr2.out

set_option maxRecDepth 100000 in
set_option maxHeartbeats 800000 in
theorem count_reads (w : World) (g : Nat) (l : List UInt8) (h : Rdr w g (some l)) :
    Calls Tryz.prog 106 #[.pointer (some ⟨g, 0, none⟩)] w (fun e w' => Read w g (fun _ (n : Nat) v => v = .int .i64 n) (countR l) e w' ∧ ∀ n l', countR l = some (n, l') → n ≤ l'.length) := by
  go_enter Tryz.func106, Tryz.ntmps106
  go_wp2_with fail
  refine (num_reads _ g l h).mono ?_
  rintro e w2 ⟨hM, hr⟩
  have hM := Lib.hid hM
  have hle : Hid (∀ n l', countR l = some (n, l') → n ≤ l'.length) := Lib.hid (by
    intro n l' e
    unfold countR at e
    cases hn : numR l with
    | none => rw [hn] at e; cases e
    | some p =>
      rw [hn] at e
      simp only [Option.bind_some] at e
      split at e
      · cases e; assumption
      · cases e)
  cases hn : numR l with
  | none =>
    rw [hn] at hr
    obtain ⟨⟨s, rfl⟩, hj⟩ := hr
    have hno := Lib.hid (show countR l = none by rw [countR, hn]; rfl)
    clear hn
    go_wp2_with fail
    exact ⟨rfl, Read.no hM.out hno.out _ hj, hle.out⟩
  | some p =>
    obtain ⟨n, l'⟩ := p
    rw [hn] at hr
    obtain ⟨⟨v, rfl, rfl, hlt⟩, hR⟩ := hr
    obtain ⟨A, c, hh, c0, f0, hl1, hl2, hby, hA⟩ := hR.cell
    have hR := Lib.hid hR
    clear hh hby hA
    by_cases h2 : n ≤ l'.length
    · have hyes := Lib.hid (show countR l = some (n, l') by rw [countR, hn]; simp [h2])
      clear hn
      go_wp2_with fail
      go_ret
      exact ⟨Read.ok hM.out hyes.out (by go_num) hR.out, hle.out⟩
    · have hno := Lib.hid (show countR l = none by rw [countR, hn]; simp [h2])
      clear hn
      go_wp2_with fail
      exact ⟨rfl, Read.no hM.out hno.out _ hR.out.jnk, hle.out⟩

end Go.Proofs.YtelglbblgkhcmaaGreat
