/-
  The walks of package code's reader, below its calls that recover: one, num.
-/
import Derived.Test.YtelglbblgkhcmaaGreatCodeD
namespace Go.Proofs.YtelglbblgkhcmaaGreat
open Go.RowKit

/-- A reader in the middle of a call that has failed: its cells are there, of what is left nothing is said. -/
def Jnk (w : World) (g : Nat) : Prop := ∃ A n c, Holds w g 149 #[.slice A n c, .bool false] ∧ n ≤ 100000000000
theorem Rdr.jnk {w : World} {g : Nat} {l : List UInt8} (h : Rdr w g (some l)) : Jnk w g := by
  obtain ⟨A, n, c, h1, h2, _⟩ := h
  exact ⟨A, n, c, h1, h2⟩

/-- What a method of the source comes to: a value and what is left; or a panic with a text. -/
def Read {α : Type} (w : World) (g : Nat) (val : World → α → Value → Prop) (r : Option (α × List UInt8)) (e : Ending) (w' : World) : Prop :=
  Writes [some g] w w' ∧ match r with
  | some (a, l) => (∃ v, e = .returned v ∧ val w' a v) ∧ Rdr w' g (some l)
  | none => (∃ s, e = .panicked [{ v := .iface 9 (.string s), recovered := false }]) ∧ Jnk w' g

theorem Read.no {α : Type} {w w' : World} {g : Nat} {val : World → α → Value → Prop} {r : Option (α × List UInt8)} (hM : Writes [some g] w w') (hr : r = none) (s : ByteArray) (hj : Jnk w' g) :
    Read w g val r (.panicked [{ v := .iface 9 (.string s), recovered := false }]) w' := by
  subst hr
  exact ⟨hM, ⟨s, rfl⟩, hj⟩
theorem Read.ok {α : Type} {w w' : World} {g : Nat} {val : World → α → Value → Prop} {r : Option (α × List UInt8)} (hM : Writes [some g] w w') {a : α} {l : List UInt8} (hr : r = some (a, l)) {v : Value} (hv : val w' a v) (hR : Rdr w' g (some l)) :
    Read w g val r (.returned v) w' := by
  subst hr
  exact ⟨hM, ⟨v, rfl, hv⟩, hR⟩
theorem Bytes.stored {w : World} {A : Option Addr} {l : List UInt8} (h : Bytes w w.heap.size A l) {g i : Nat} {u : Value} (hA : ∀ a, A = some a → a.block ≠ g) : Bytes (w.setCell ⟨g, i, none⟩ u) (w.setCell ⟨g, i, none⟩ u).heap.size A l := by
  intro hne
  obtain ⟨b, off, rfl, hb, hc⟩ := h hne
  refine ⟨b, off, rfl, by simp [World.setCell]; exact hb, fun j v hv => ?_⟩
  rw [← hc j v hv]
  exact World.cell?_of_block (Below.heap_setCell w ⟨g, i, none⟩ u b (hA _ rfl))
theorem Rdr.set {w : World} {g : Nat} {v : Value} (h1 : Holds w g 149 #[v, .bool false]) {A : Option Addr} {n c : Nat} {l : List UInt8} (hn : l.length = n) (hc : n ≤ c) (h : Bytes w w.heap.size A l) (hA : ∀ a, A = some a → a.block < g) (hm : n ≤ 100000000000) :
    Rdr (w.setCell ⟨g, 0, none⟩ (.slice A n c)) g (some l) := by
  refine ⟨A, n, c, by have := h1.store 0 (.slice A n c); simpa using this, hm, ?_⟩
  rintro l' ⟨⟩
  exact ⟨hn, hc, h.stored fun a e => Nat.ne_of_lt (hA a e), hA⟩

set_option maxRecDepth 100000 in
set_option maxHeartbeats 400000 in
theorem one_no (w : World) (g : Nat) (h : Rdr w g (some [])) :
    Calls Tryz.prog 108 #[.pointer (some ⟨g, 0, none⟩)] w fun e w' => (∃ s, e = .panicked [{ v := .iface 9 (.string s), recovered := false }]) ∧ w = w' := by
  obtain ⟨A, n, c, h1, h2, h3⟩ := h
  obtain ⟨hn, _⟩ := h3 [] rfl
  subst hn
  have c0 : w.cell? ⟨g, 0, none⟩ = some (.slice A 0 c) := by rw [h1.cell 0]; rfl
  go_enter Tryz.func108, Tryz.ntmps108
  go_wp2
  exact ⟨rfl, ⟨_, rfl⟩, rfl⟩

set_option maxRecDepth 100000 in
set_option maxHeartbeats 400000 in
theorem one_ok (w : World) (g : Nat) (b : UInt8) (l : List UInt8) (h : Rdr w g (some (b :: l))) :
    Calls Tryz.prog 108 #[.pointer (some ⟨g, 0, none⟩)] w fun e w' => e = .returned (.int .u8 b.toNat) ∧ Rdr w' g (some l) ∧ Writes [some g] w w' := by
  obtain ⟨A, n, c, h1, h2, h3⟩ := h
  obtain ⟨hn, hc, hb, hA⟩ := h3 _ rfl
  have hln : (b :: l).length ≤ c := by omega
  have hk := hb.cut 1 (c := c) hln
  obtain ⟨bk, off, rfl, hbk, hcell⟩ := hb.at_ (k := 0) (by simp)
  have hgb := hA _ rfl
  rw [List.length_cons] at hn
  have hn0 : 0 < n := by omega
  have c0 : w.cell? ⟨g, 0, none⟩ = some (.slice (some ⟨bk, off, none⟩) n c) := by rw [h1.cell 0]; rfl
  have f0 := h1.frozen 0
  have c1 : w.cell? ⟨bk, off, none⟩ = some (.int .u8 b.toNat) := by simpa using hcell
  clear hcell h3 hln
  have hn := Lib.hid hn
  have h1 := Lib.hid h1
  clear hb hA
  by_cases e : c = 1
  · rw [if_pos e] at hk
    have hk := Lib.hid hk
    go_enter Tryz.func108, Tryz.ntmps108
    go_wp2
    go_ret
    exact ⟨rfl, Rdr.set h1.out (by have := hn.out; omega) (by omega) hk.out (fun a e => by cases e; exact hgb) (by omega), Writes.store w (by simp) _⟩
  · rw [if_neg e] at hk
    have hk := Lib.hid (show Bytes w w.heap.size (some ⟨bk, off + 1, none⟩) l from hk)
    go_enter Tryz.func108, Tryz.ntmps108
    go_wp2
    go_ret
    exact ⟨rfl, Rdr.set h1.out (by have := hn.out; omega) (by omega) hk.out (fun a e => by cases e; exact hgb) (by omega), Writes.store w (by simp) _⟩

theorem and127_u8 (b : UInt8) : bits .and .u8 (b.toNat : Int) 127 = ((b.toNat % 128 : Nat) : Int) := by
  have h := u8_and_nat b.toNat 127 b.toNat_lt (by omega)
  rw [nat_mask7] at h
  exact h
theorem or_num {k v : Nat} {b : UInt8} (hv : v < 2 ^ (7 * k)) (hs : v + b.toNat % 128 * 2 ^ (7 * k) < 18446744073709551616) :
    bits .or .u64 (v : Int) (IntKind.u64.wrap ((b.toNat : Int) % 128 * 2 ^ (7 * k))) = ((v + b.toNat % 128 * 2 ^ (7 * k) : Nat) : Int) := by
  have e : (b.toNat : Int) % 128 * 2 ^ (7 * k) = ((b.toNat % 128 * 2 ^ (7 * k) : Nat) : Int) := by
    rw [Int.natCast_mul, Int.natCast_pow]
    rfl
  rw [e, ← or_acc hv]
  generalize b.toNat % 128 * 2 ^ (7 * k) = x at *
  rw [IntKind.wrap_u64, show (x : Int) % 18446744073709551616 = x by omega]
  exact u64_or_nat v x (by omega) (by omega)
theorem or_num2 {k v s : Nat} {b : UInt8} (hv : v < 2 ^ (7 * k)) (hs : s < 18446744073709551616) (he : v + b.toNat % 128 * 2 ^ (7 * k) = s) (hb : b.toNat < 128) :
    bits .or .u64 (v : Int) (IntKind.u64.wrap ((b.toNat : Int) * 2 ^ (7 * k))) = (s : Int) := by
  have h := or_num (b := b) hv (by omega)
  rw [he] at h
  rw [← h]
  congr 3
  omega
theorem or_num9 {k v s : Nat} {b : UInt8} (hk : k = 9) (hv : v < 2 ^ (7 * k)) (hs : s < 18446744073709551616) (he : v + b.toNat % 128 * 2 ^ (7 * k) = s) (hb : b.toNat ≤ 1) :
    bits .or .u64 (v : Int) ((b.toNat : Int) * 9223372036854775808) = (s : Int) := by
  subst hk
  have h := or_num2 hv hs he (by omega)
  rw [← h, show (2 : Int) ^ (7 * 9) = 9223372036854775808 by decide, IntKind.wrap_u64]
  congr 1
  omega
set_option maxRecDepth 100000 in
set_option maxHeartbeats 2000000 in
theorem num_reads (w : World) (g : Nat) (l : List UInt8) (h : Rdr w g (some l)) :
    Calls Tryz.prog 131 #[.pointer (some ⟨g, 0, none⟩)] w (Read w g (fun _ (n : Nat) v => v = .int .u64 n ∧ n < 18446744073709551616) (numR l)) := by
  go_enter Tryz.func131, Tryz.ntmps131
  go_wp2
  go_loopw [3, 6] (fun x i wr => ∃ (k v : Nat) (l' : List UInt8), k ≤ 10 ∧ i = .int .i64 k ∧ x = .int .u64 (v : Nat) ∧ v < 2 ^ (7 * k) ∧ Rdr wr g (some l') ∧ Writes [some g] w wr ∧ rdN (10 - k) k v l' = numR l) (fun _ i _ => 10 - (intOf i).toNat)
  case atStart => exact ⟨0, 0, l, by omega, rfl, rfl, by decide, h, Writes.refl _ _, rfl⟩
  case round =>
    obtain ⟨k, v, l', hk, rfl, rfl, hv, hr, hM, hrd⟩ := hrel
    have hrd := Lib.hid hrd
    have hv := Lib.hid hv
    by_cases hk10 : k < 10
    · rcases l' with _ | ⟨b, l'⟩
      · go_wp2_with fail
        refine (one_no _ g hr).mono ?_
        rintro e w2 ⟨⟨s, rfl⟩, rfl⟩
        go_wp2_with fail
        exact ⟨rfl, Read.no hM (by rw [← hrd.out, rdN_nil]) s hr.jnk⟩
      · have hb256 := b.toNat_lt
        go_wp2_with fail
        refine (one_ok _ g b l' hr).mono ?_
        rintro e w2 ⟨rfl, hr2, hM2⟩
        have hM3 := Lib.hid (hM.trans hM2)
        have hr2 := Lib.hid hr2
        clear hM hM2 hr
        have hf : 10 - k = (9 - k) + 1 := by omega
        rw [hf] at hrd
        clear hf
        by_cases hw : k = 9 ∧ 1 < b.toNat
        · have hno := Lib.hid (show numR l = none by rw [← hrd.out, rdN_wide _ _ _ _ _ hw])
          obtain ⟨rfl, hb1⟩ := hw
          go_wp2_with fail
          exact ⟨rfl, Read.no hM3.out hno.out _ hr2.out.jnk⟩
        · have hand := and127_u8 b
          have hsum := Lib.hid (acc_64 (b := b.toNat) (by omega) hv.out (by omega) hw)
          have hlt := Lib.hid (acc_lt (b := b.toNat) hv.out)
          have hor := or_num (b := b) hv.out hsum.out
          have hmod : b.toNat < 128 → b.toNat % 128 = b.toNat := fun h => Nat.mod_eq_of_lt h
          have hmod := Lib.hid hmod
          generalize hs : v + b.toNat % 128 * 2 ^ (7 * k) = s at *
          have hs := Lib.hid hs
          by_cases h128 : b.toNat < 128
          · by_cases hid : b.toNat = 0 ∧ 0 < k
            · have hno := Lib.hid (show numR l = none by rw [← hrd.out, rdN_idle _ _ _ _ _ hw hid])
              obtain ⟨hb0, hk0⟩ := hid
              by_cases hk9 : k = 9
              · subst hk9
                go_wp2_with fail
                exact ⟨rfl, Read.no hM3.out hno.out _ hr2.out.jnk⟩
              · go_wp2_with fail
                exact ⟨rfl, Read.no hM3.out hno.out _ hr2.out.jnk⟩
            · have hyes := Lib.hid (show numR l = some (s, l') by rw [← hrd.out, rdN_last _ _ _ _ _ hw h128 hid, ← hs.out, hmod.out h128])
              have hor2 := or_num2 (b := b) hv.out hsum.out hs.out h128
              by_cases hk9 : 9 ≤ k
              · have hb1 : 1 ≤ b.toNat := by omega
                have hb2 : b.toNat ≤ 1 := by omega
                have hor9 := or_num9 (k := k) (b := b) (by omega) hv.out hsum.out hs.out hb2
                clear hid hw
                go_wp2_with fail
                go_ret
                exact Read.ok hM3.out hyes.out ⟨rfl, hsum.out⟩ hr2.out
              · by_cases hb0 : b.toNat ≤ 0
                · have hk0 : k ≤ 0 := by omega
                  clear hid hw
                  go_wp2_with fail
                  go_ret
                  exact Read.ok hM3.out hyes.out ⟨rfl, hsum.out⟩ hr2.out
                · clear hid hw
                  go_wp2_with fail
                  go_ret
                  exact Read.ok hM3.out hyes.out ⟨rfl, hsum.out⟩ hr2.out
          · have hmore := Lib.hid (rdN_more (9 - k) k v b l' hw h128)
            have hk9 : k ≠ 9 := by omega
            go_wp2_with fail
            go_roundw
            case rel => exact ⟨k + 1, s, l', by omega, by go_num, by go_num, hlt.out, hr2.out, hM3.out, by rw [← hrd.out, hmore.out, hs.out]; congr 1; omega⟩
            case measure => simp [intOf]; omega
    · obtain rfl : k = 10 := by omega
      go_wp2_with fail
      exact ⟨rfl, Read.no hM (by rw [← hrd.out]; rfl) _ hr.jnk⟩

end Go.Proofs.YtelglbblgkhcmaaGreat
