/-
  The walks of package code's reader, below its calls that recover: text, small.
-/
import Derived.Test.YtelglbblgkhcmaaGreatCodeF
namespace Go.Proofs.YtelglbblgkhcmaaGreat
open Go.RowKit

set_option maxRecDepth 100000 in
set_option maxHeartbeats 800000 in
theorem text_reads (w : World) (g : Nat) (l : List UInt8) (h : Rdr w g (some l)) :
    Calls Tryz.prog 78 #[.pointer (some ⟨g, 0, none⟩)] w (Read w g (fun _ (s : List UInt8) v => v = .string (strV s) ∧ s.length ≤ 100000000000) (textR l)) := by
  go_enter Tryz.func78, Tryz.ntmps78
  go_wp2_with fail
  refine (count_reads _ g l h).mono ?_
  rintro e w2 ⟨⟨hM, hr⟩, hle⟩
  have hM := Lib.hid hM
  cases hn : countR l with
  | none =>
    rw [hn] at hr
    obtain ⟨⟨s, rfl⟩, hj⟩ := hr
    have hno := Lib.hid (show textR l = none by rw [textR, hn]; rfl)
    clear hn hle
    go_wp2_with fail
    exact ⟨rfl, Read.no hM.out hno.out _ hj⟩
  | some p =>
    obtain ⟨n, l'⟩ := p
    rw [hn] at hr
    have hnl := hle n l' hn
    obtain ⟨⟨v, rfl, rfl⟩, hR⟩ := hr
    obtain ⟨A, c, hh, c0, f0, hl1, hl2, hby, hA⟩ := hR.cell
    have hyes := Lib.hid (show textR l = some (l'.take n, l'.drop n) by rw [textR, hn]; rfl)
    have hnc : n ≤ c := by omega
    have kv := run_text (P := Tryz.prog) w2 37 5 Tryz.underlying37 Tryz.underlying5 A n c (l'.take n) (by simp; omega) (hby.take n) 9 Tryz.underlying9
    have hcut := hby.cut n (c := c) hl2
    have hh := Lib.hid hh
    have hlt : (l'.take n).length ≤ 100000000000 := by rw [List.length_take]; omega
    have hlt := Lib.hid hlt
    have hA := Lib.hid hA
    clear hn hle hR hby
    by_cases e : c = n
    · rw [if_pos e] at hcut
      have hcut := Lib.hid hcut
      subst e
      have hA2 := Lib.hid (show ∀ a, A = some a → a.block < g from hA.out)
      go_wp2_with fail
      go_ret
      exact Read.ok (hM.out.trans (Writes.store w2 (by simp) _)) hyes.out ⟨rfl, hlt.out⟩ (Rdr.set hh.out (by simp; omega) (by omega) hcut.out hA2.out (by omega))
    · rw [if_neg e] at hcut
      have hcut := Lib.hid hcut
      have hA2 : Hid (∀ a, A.map (·.add n) = some a → a.block < g) := Lib.hid (by
        intro a ha
        rcases A with _ | a0
        · cases ha
        · simp only [Option.map_some, Option.some.injEq] at ha
          subst ha
          have := hA.out a0 rfl
          unfold Addr.add
          split <;> exact this)
      go_wp2_with fail
      go_ret
      exact Read.ok (hM.out.trans (Writes.store w2 (by simp) _)) hyes.out ⟨rfl, hlt.out⟩ (Rdr.set hh.out (by simp) (by omega) hcut.out hA2.out (by omega))

end Go.Proofs.YtelglbblgkhcmaaGreat
