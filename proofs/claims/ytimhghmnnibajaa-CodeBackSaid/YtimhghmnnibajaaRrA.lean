/-
  The walks of the reference's reader (augurref1.Reader): Num.
-/
import Derived.Test.YtimhghmnnibajaaCodeI
namespace Go.Proofs.Ytimhghmnnibajaa
open Go.RowKit

/-- The reference's reader at block g: what is left (nothing is said of it behind a failure), whether a call has failed. -/
def Rrd (w : World) (g : Nat) (st : Option (List UInt8)) : Prop :=
  ∃ A n c, Holds w g 69 #[.slice A n c, .bool st.isNone] ∧ n ≤ 100000000000 ∧ ∀ l, st = some l → l.length = n ∧ n ≤ c ∧ Bytes w w.heap.size A l ∧ (l ≠ [] → ∀ a, A = some a → a.block < g)
/-- What a method of it answers. -/
def TookR {α : Type} (w : World) (g : Nat) (val : α → Value) (r : List UInt8 → Option (α × List UInt8)) (zero : α) (st : Option (List UInt8)) (e : Ending) (w' : World) : Prop :=
  e = .returned (val (valOf r zero st)) ∧ Rrd w' g (nextOf r st) ∧ Writes [some g] w w'
section
variable {w w' : World} {g : Nat} {st : Option (List UInt8)}
theorem Rrd.below (h : Rrd w g st) (hb : Below w.heap.size w w') : Rrd w' g st := by
  obtain ⟨A, n, c, h1, h2, h3⟩ := h
  refine ⟨A, n, c, h1.below hb h1.lt, h2, fun l e => ?_⟩
  obtain ⟨e1, e2, e3, e4⟩ := h3 l e
  exact ⟨e1, e2, e3.up hb, e4⟩
theorem Rrd.fail {A : Option Addr} {n c : Nat} {b : Bool} (h : Holds w g 69 #[.slice A n c, .bool b]) (hn : n ≤ 100000000000) : Rrd (w.setCell ⟨g, 1, none⟩ (.bool true)) g none := by
  refine ⟨A, n, c, ?_, hn, fun l e => by cases e⟩
  have := h.store 1 (.bool true)
  simpa using this
theorem Rrd.set {v : Value} {b : Bool} (hb : b = false) (h1 : Holds w g 69 #[v, .bool b]) {A : Option Addr} {n c : Nat} {l : List UInt8} (hn : l.length = n) (hc : n ≤ c) (h : Bytes w w.heap.size A l) (hA : l ≠ [] → ∀ a, A = some a → a.block < g) (hm : n ≤ 100000000000) :
    Rrd (w.setCell ⟨g, 0, none⟩ (.slice A n c)) g (some l) := by
  subst hb
  refine ⟨A, n, c, by have := h1.store 0 (.slice A n c); simpa using this, hm, ?_⟩
  rintro l' ⟨⟩
  exact ⟨hn, hc, fun hne => h.stored (fun a e => Nat.ne_of_lt (hA (by rintro rfl; simp at hne) a e)) hne, hA⟩
theorem TookR.no {α : Type} {val : α → Value} {r : List UInt8 → Option (α × List UInt8)} {zero : α} (hr : st.bind r = none) (hR : Rrd w' g none) (hM : Writes [some g] w w') : TookR w g val r zero st (.returned (val zero)) w' := by
  refine ⟨by simp [valOf, hr], ?_, hM⟩
  cases st with
  | none => exact hR
  | some l =>
    have : r l = none := hr
    simpa [nextOf, this] using hR
theorem TookR.ok {α : Type} {val : α → Value} {r : List UInt8 → Option (α × List UInt8)} {zero a : α} {l l' : List UInt8} (hr : r l = some (a, l')) (hR : Rrd w' g (some l')) (hM : Writes [some g] w w') : TookR w g val r zero (some l) (.returned (val a)) w' :=
  ⟨by simp [valOf, hr], by simpa [nextOf, hr] using hR, hM⟩
end

set_option maxRecDepth 100000 in
set_option maxHeartbeats 4000000 in
theorem rrNum_none (w : World) (g : Nat) (h : Rrd w g none) :
    Calls Try.prog 34 #[.pointer (some ⟨g, 0, none⟩)] w fun e w' => e = .returned (.int .u64 0) ∧ Rrd w' g none ∧ Writes [some g] w w' := by
  obtain ⟨A, n, c, h1, h2, h3⟩ := h
  have c1 : w.cell? ⟨g, 1, none⟩ = some (.bool true) := by rw [h1.cell 1]; rfl
  have f1 := h1.frozen 1
  have h1 := Lib.hid h1
  rename_i h1'
  clear h1' h3
  go_enter Try.func34, Try.ntmps34
  go_wp2_with fail
  go_loopw [3, 4, 5] (fun x s i wr => Hid (wr = w)) (fun _ _ i _ => 10 - (intOf i).toNat)
  case atStart => exact Lib.hid rfl
  obtain rfl := hrel.out
  go_wp2_with fail
  go_ret
  exact ⟨rfl, Rrd.fail h1.out h2, Writes.store _ (by simp) _⟩

set_option maxRecDepth 100000 in
set_option maxHeartbeats 8000000 in
theorem rrNum_some (w : World) (g : Nat) (l : List UInt8) (h : Rrd w g (some l)) :
    Calls Try.prog 34 #[.pointer (some ⟨g, 0, none⟩)] w (fun e w' => ∃ n : Nat, e = .returned (.int .u64 n) ∧ n < 18446744073709551616 ∧ TookR w g (fun n : Nat => .int .u64 n) numR 0 (some l) e w') := by
  obtain ⟨A, n, c, h1, h2, h3⟩ := h
  obtain ⟨hn, hc, hb, hA⟩ := h3 l rfl
  have c0 : w.cell? ⟨g, 0, none⟩ = some (.slice A n c) := by rw [h1.cell 0]; rfl
  have c1 : w.cell? ⟨g, 1, none⟩ = some (.bool false) := by rw [h1.cell 1]; rfl
  have f0 := h1.frozen 0
  have f1 := h1.frozen 1
  have h1 := Lib.hid h1
  rename_i h1'
  have hb := Lib.hid hb
  rename_i hb'
  have hA := Lib.hid hA
  rename_i hA'
  have hnl := Lib.hid hn
  clear h1' hb' hA' h3 hn
  go_enter Try.func34, Try.ntmps34
  go_wp2_with fail
  go_loopw [3, 4, 5] (fun x s i wr => ∃ (k v : Nat), k ≤ 10 ∧ k ≤ n ∧ i = .int .i64 k ∧ s = .int .i64 (7 * k : Nat) ∧ x = .int .u64 (v : Nat) ∧ v < 2 ^ (7 * k) ∧ Hid (wr = w) ∧ rdN (10 - k) k v (l.drop k) = numR l) (fun _ _ i _ => 10 - (intOf i).toNat)
  case atStart => exact ⟨0, 0, by omega, by omega, rfl, rfl, rfl, by decide, Lib.hid rfl, rfl⟩
  obtain ⟨k, v, hk, hkn, rfl, rfl, rfl, hv0, hwr, hrd0⟩ := hrel
  obtain rfl := hwr.out
  have hrd := Lib.hid hrd0
  have hv := Lib.hid hv0
  clear hrd0 hv0 hwr
  have hbad : Hid (∀ e : Ending, e = .returned (.int .u64 0) → numR l = none → ∃ n : Nat, e = .returned (.int .u64 n) ∧ n < 18446744073709551616 ∧ TookR wr g (fun n : Nat => .int .u64 n) numR 0 (some l) e (wr.setCell ⟨g, 1, none⟩ (.bool true))) := Lib.hid fun e he hn => ⟨0, he, by omega, by rw [he]; exact TookR.no (val := fun n : Nat => .int .u64 n) (zero := 0) hn (Rrd.fail h1.out h2) (Writes.store _ (by simp) _)⟩
  by_cases hkn2 : n ≤ k
  case pos =>
    have hno := Lib.hid (show numR l = none by rw [← hrd.out, List.drop_eq_nil_of_le (by rw [hnl.out]; exact hkn2), rdN_nil])
    go_wp2_with fail
    go_ret
    exact hbad.out _ rfl hno.out
  have hkl : k < l.length := by rw [hnl.out]; omega
  obtain ⟨bk, off, rfl, _, hcell⟩ := hb.out.at_ hkl
  have hdr := Lib.hid (List.drop_eq_getElem_cons hkl)
  have hb256 := (l[k]).toNat_lt
  generalize l[k] = b at *
  by_cases hk10 : 10 ≤ k
  case pos =>
    obtain rfl : k = 10 := by omega
    have hno := Lib.hid (show numR l = none by rw [← hrd.out]; rfl)
    go_wp2_with fail
    go_ret
    exact hbad.out _ rfl hno.out
  have hf : 10 - k = (9 - k) + 1 := by omega
  rw [hf, hdr.out] at hrd
  clear hf hdr
  by_cases hw : k = 9 ∧ 1 < b.toNat
  case pos =>
    have hno := Lib.hid (show numR l = none by rw [← hrd.out, rdN_wide _ _ _ _ _ hw])
    obtain ⟨rfl, hb1⟩ := hw
    go_wp2_with fail
    go_ret
    exact hbad.out _ rfl hno.out
  have hand := and127_u8 b
  have hsum := Lib.hid (acc_64 (b := b.toNat) (by omega) hv.out (by omega) hw)
  have hlt := Lib.hid (acc_lt (b := b.toNat) hv.out)
  have hor := or_num (b := b) hv.out hsum.out
  have hmod := Lib.hid (show b.toNat < 128 → b.toNat % 128 = b.toNat from fun h => Nat.mod_eq_of_lt h)
  generalize hs0 : v + b.toNat % 128 * 2 ^ (7 * k) = s at *
  have hs := Lib.hid hs0
  clear hs0
  have hbyte := hcell
  by_cases h128 : b.toNat < 128
  case pos =>
    by_cases hid : b.toNat = 0 ∧ 0 < k
    case pos =>
      have hno := Lib.hid (show numR l = none by rw [← hrd.out, rdN_idle _ _ _ _ _ hw hid])
      obtain ⟨hb0, hk0⟩ := hid
      by_cases hk9 : k = 9
      · subst hk9
        go_wp2_with fail
        go_ret
        exact hbad.out _ rfl hno.out
      · go_wp2_with fail
        go_ret
        exact hbad.out _ rfl hno.out
    have hyes := Lib.hid (show numR l = some (s, l.drop (k + 1)) by rw [← hrd.out, rdN_last _ _ _ _ _ hw h128 hid, ← hs.out, hmod.out h128])
    have hor2 := or_num2 (b := b) hv.out hsum.out hs.out h128
    have hlen2 := Lib.hid (show (l.drop (k + 1)).length = n - (k + 1) by rw [List.length_drop, hnl.out])
    have hAc : ∀ o : Nat, ∀ a, (some (⟨bk, o, none⟩ : Addr)) = some a → a.block < g := fun o a e => by
      injection e with e
      rw [← e]
      exact hA.out (by intro h; rw [h] at hkl; simp at hkl) ⟨bk, off, none⟩ rfl
    have hAc := Lib.hid hAc
    have hcut := hb.out.cut (k + 1) (c := c) (by rw [hnl.out]; exact hc)
    have hfin : Hid (∀ o n2 c2, n2 = n - (k + 1) → n2 ≤ c2 → Bytes wr wr.heap.size (some ⟨bk, o, none⟩) (l.drop (k + 1)) → ∃ m : Nat, Ending.returned (.int .u64 s) = .returned (.int .u64 m) ∧ m < 18446744073709551616 ∧ TookR wr g (fun n : Nat => .int .u64 n) numR 0 (some l) (.returned (.int .u64 s)) (wr.setCell ⟨g, 0, none⟩ (.slice (some ⟨bk, o, none⟩) n2 c2))) := Lib.hid fun o n2 c2 h0 h3 h4 => by
      subst h0
      exact ⟨s, rfl, hsum.out, TookR.ok (val := fun n : Nat => .int .u64 n) (zero := 0) hyes.out (Rrd.set rfl h1.out hlen2.out h3 h4 (fun _ => hAc.out o) (by omega)) (Writes.store _ (by simp) _)⟩
    clear hbad hAc hlen2 hyes hrd
    by_cases e : c = k + 1
    · subst e
      rw [if_pos rfl] at hcut
      have hcut1 := Lib.hid hcut
      clear hcut
      by_cases hk9 : 9 ≤ k
      · have hk9e : ((k : Int) == 9) = true := by rw [beq_iff_eq]; omega
        have hb2 : b.toNat ≤ 1 := by omega
        have hor9 := or_num9 (k := k) (b := b) (by omega) hv.out hsum.out hs.out hb2
        by_cases hb0 : b.toNat ≤ 0
        · exact absurd ⟨by omega, by omega⟩ hid
        · have hb1 : 1 ≤ b.toNat := by omega
          have hb3 : ((b.toNat : Int) == 0) = false := by rw [beq_eq_false_iff_ne]; omega
          clear hid hw
          go_wp2_with fail
          go_ret
          exact hfin.out _ _ _ (by omega) (by omega) hcut1.out
      · have hk9e : ((k : Int) == 9) = false := by rw [beq_eq_false_iff_ne]; omega
        by_cases hb0 : b.toNat ≤ 0
        · have hk0 : k ≤ 0 := by omega
          have hb3 : ((b.toNat : Int) == 0) = true := by rw [beq_iff_eq]; omega
          clear hid hw
          go_wp2_with fail
          go_ret
          exact hfin.out _ _ _ (by omega) (by omega) hcut1.out
        · have hb3 : ((b.toNat : Int) == 0) = false := by rw [beq_eq_false_iff_ne]; omega
          clear hid hw
          go_wp2_with fail
          go_ret
          exact hfin.out _ _ _ (by omega) (by omega) hcut1.out
    · rw [if_neg e] at hcut
      have hcut1 := Lib.hid (show Bytes wr wr.heap.size (some ⟨bk, off + (k + 1), none⟩) (l.drop (k + 1)) from hcut)
      clear hcut
      by_cases hk9 : 9 ≤ k
      · have hk9e : ((k : Int) == 9) = true := by rw [beq_iff_eq]; omega
        have hb2 : b.toNat ≤ 1 := by omega
        have hor9 := or_num9 (k := k) (b := b) (by omega) hv.out hsum.out hs.out hb2
        by_cases hb0 : b.toNat ≤ 0
        · exact absurd ⟨by omega, by omega⟩ hid
        · have hb1 : 1 ≤ b.toNat := by omega
          have hb3 : ((b.toNat : Int) == 0) = false := by rw [beq_eq_false_iff_ne]; omega
          clear hid hw
          go_wp2_with fail
          go_ret
          exact hfin.out _ _ _ (by omega) (by omega) hcut1.out
      · have hk9e : ((k : Int) == 9) = false := by rw [beq_eq_false_iff_ne]; omega
        by_cases hb0 : b.toNat ≤ 0
        · have hk0 : k ≤ 0 := by omega
          have hb3 : ((b.toNat : Int) == 0) = true := by rw [beq_iff_eq]; omega
          clear hid hw
          go_wp2_with fail
          go_ret
          exact hfin.out _ _ _ (by omega) (by omega) hcut1.out
        · have hb3 : ((b.toNat : Int) == 0) = false := by rw [beq_eq_false_iff_ne]; omega
          clear hid hw
          go_wp2_with fail
          go_ret
          exact hfin.out _ _ _ (by omega) (by omega) hcut1.out
  have hmore := Lib.hid (rdN_more (9 - k) k v b (l.drop (k + 1)) hw h128)
  have hk9 : k ≠ 9 := by omega
  clear hbad
  go_wp2_with fail
  go_roundw
  case rel => exact ⟨k + 1, s, by omega, by omega, by go_num, by go_num, by go_num, hlt.out, by first | exact Lib.hid trivial | exact Lib.hid rfl, by rw [← hrd.out, hmore.out, hs.out]; congr 1; omega⟩
  case measure => simp [intOf]; omega
end Go.Proofs.Ytimhghmnnibajaa
