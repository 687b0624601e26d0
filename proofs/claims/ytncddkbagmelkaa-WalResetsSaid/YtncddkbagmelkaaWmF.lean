/-
  The walk of the statement WalResets.
-/
import Derived.Test.YtncddkbagmelkaaWg
import Derived.Test.YtncddkbagmelkaaArg
namespace Go.Proofs.Ytncddkbagmelkaa
open Go.RowKit Go.Deep

def full3 : List UInt8 := [255, 255, 255]
set_option maxRecDepth 100000 in
set_option maxHeartbeats 4000000 in
theorem resets_walk (W : World) (v0 v1 : Value) (o0 : ArgOk 5 W v0) (o1 : ArgOk 23 W v1) :
    Calls Try.prog 5 #[v0, v1] W fun e w' => e = .returned (.bool true) ∧ Below W.heap.size W w' := by
  obtain ⟨n, rfl, hn⟩ := o0.u8
  obtain ⟨A, m, c, lens, rfl, hlm, hmc, hcm, hb⟩ := o1.bytes
  clear o0 o1
  have hkn := known_any W
  have hb' := Lib.hid hb
  have hlm' := Lib.hid hlm
  clear hb hlm
  go_enter Try.func5, Try.ntmps5
  go_wp2_with fail
  refine hkn.mono ?_
  clear hkn
  rintro e w1 ⟨rfl, hb1⟩
  have hB1 := Lib.hid hb1
  clear hb1
  by_cases hm6 : 6 < m
  · have hmi : (6 : Int) < (m : Int) := by omega
    go_wp2_with fail
    go_ret
    exact ⟨rfl, hB1.out⟩
  have hmi : ¬ (6 : Int) < (m : Int) := by omega
  have hnd : Calls Try.prog 12 #[.int .i64 80, .int .i64 256] w1 _ := newd_any w1 80 256 (by omega) (by omega) (by omega) (by omega)
  go_wp2_with fail
  refine hnd.mono ?_
  clear hnd
  rintro e w2 ⟨q0, rfl, hN, hge, hb2, hF⟩
  have hB2 := Lib.hid (hB1.out.trans (hb2.mono hB1.out.size))
  have hop := open_new (B := W.heap.size) (by omega) (by omega) hN (fun x hx => Nat.le_trans hB1.out.size (hF x hx)) hB2.out.size
  clear hN hge hb2 hF
  go_wp2_with fail
  refine hop.mono ?_
  clear hop
  rintro e w3 ⟨q1, l1, c1, A1, rfl, hL, hs0, hu0, hb3, _⟩
  have hB3 := Lib.hid (hB2.out.trans hb3)
  obtain ⟨gl, hgl⟩ : ∃ g, g = l1.g := ⟨_, rfl⟩
  obtain ⟨gq, hgq⟩ : ∃ g, g = q0.g := ⟨_, rfl⟩
  rw [← hgl, ← hgq] at hL ⊢
  have hL3 := Lib.hid hL
  have hs0' := Lib.hid hs0
  have hu0' := Lib.hid hu0
  clear hb3 hgl hgq hL hs0 hu0
  have hbt : Calls Try.prog 15 #[.int .i64 2, .slice A m c] w3 _ := batch_sl w3 2 (by omega) A m c lens hlm'.out (by omega) ((hb'.out.below hB3.out).more hB3.out.size)
  go_wp2_with fail
  refine hbt.mono ?_
  clear hbt
  rintro e w4 ⟨A2, c2, rfl, hsl, hc2, hb4⟩
  have hB4 := Lib.hid (hB3.out.trans (hb4.mono hB3.out.size))
  have hL4 := Lib.hid (hL3.out.below hb4)
  have hsl4 := Lib.hid hsl
  obtain ⟨LB, hLB⟩ : ∃ L, L = batchF 2 lens := ⟨_, rfl⟩
  rw [← hLB] at hsl4 hsl
  have hLl : Hid (LB.length = m) := Lib.hid (by rw [hLB, batchF_length, hlm'.out])
  have hLt : Hid (tooLong LB = false) := Lib.hid (by rw [hLB]; exact batchF_notlong _ _)
  have hLf : Hid ((framesF LB).length ≤ 1578) := Lib.hid (by have := batchF_bound 2 lens; rw [← hLB, hlm'.out] at this; omega)
  clear hsl hb4 hL3 hLB
  obtain ⟨K, hK⟩ : ∃ K, K = n % 40 + 1 := ⟨_, rfl⟩
  have hK2 : K ≤ 40 := by omega
  have hKi : Hid ((n : Int) % 40 + 1 = (K : Int)) := Lib.hid (by omega)
  have hw40 : IntKind.u8.wrap ((n : Int).tmod 40) = (n : Int) % 40 := by rw [Int.tmod_eq_emod_of_nonneg (by omega)]; exact IntWalk.u8_in _ (by omega)
  have hw41 : IntKind.i64.wrap ((n : Int) % 40) = (n : Int) % 40 := IntWalk.i64_in _ (by omega)
  have hw42 : IntKind.i64.wrap ((n : Int) % 40 + 1) = (n : Int) % 40 + 1 := IntWalk.i64_in _ (by omega)
  clear hK
  go_wp2_with fail
  go_loopw [10] (fun iv wr => ∃ (k : Nat) (l : LR) (q : DR) (all : List (List UInt8)), k ≤ K ∧ iv = .int .i64 k ∧ Hid (Lg W.heap.size 80 256 gl gq l q wr all) ∧ Hid ((k = 0 ∧ all = []) ∨ all = LB) ∧ Hid (l.used ≤ 1578 ∧ l.serial ≤ 4 * k) ∧ Hid (Below W.heap.size W wr) ∧ Hid (Slices wr wr.heap.size A2 LB)) (fun iv _ => K - (intOf iv).toNat)
  case atStart => exact ⟨0, l1, q1, [], by omega, rfl, hL4, Lib.hid (.inl ⟨rfl, rfl⟩), Lib.hid (by rw [hu0'.out, hs0'.out]; omega), hB4, hsl4⟩
  obtain ⟨k, l, q, all, hk, rfl, hL, hall, hus, hB, hsl⟩ := hrel
  by_cases hkK : k < K
  · have hki : (k : Int) < (n : Int) % 40 + 1 := by rw [hKi.out]; omega
    have hkw : IntKind.i64.wrap ((k : Int) + 1) = ((k + 1 : Nat) : Int) := by rw [IntWalk.i64_in _ (by omega)]; omega
    go_wp2_with fail
    have hba := below_new wr (.cells #[.int .u8 255, .int .u8 255, .int .u8 255] 5)
    have hrow : Bytes (wr.alloc (.cells #[.int .u8 255, .int .u8 255, .int .u8 255] 5)) (wr.alloc (.cells #[.int .u8 255, .int .u8 255, .int .u8 255] 5)).heap.size (some ⟨wr.heap.size, 0, none⟩) full3 := Row.fresh wr 5 (full3.map byteV)
    obtain ⟨w5, hw5⟩ : ∃ x, x = wr.alloc (.cells #[.int .u8 255, .int .u8 255, .int .u8 255] 5) := ⟨_, rfl⟩
    rw [← hw5] at hba hrow ⊢
    have hbt : Calls Try.prog 15 #[.int .i64 k, .slice (some ⟨wr.heap.size, 0, none⟩) 3 3] w5 _ := batch_sl w5 k (by omega) (some ⟨wr.heap.size, 0, none⟩) 3 3 full3 rfl (by omega) hrow
    have hL5 := Lib.hid (hL.out.below hba)
    have hB5 := Lib.hid (hB.out.trans (hba.mono hB.out.size))
    have hsl5 := Lib.hid (hsl.out.up hba)
    clear hba hrow hw5 hL hB hsl
    refine hbt.mono ?_
    clear hbt
    rintro e w6 ⟨A6, c6, rfl, hsl6, hc6, hb6⟩
    have hL6 := Lib.hid (hL5.out.below hb6)
    have hB6 := Lib.hid (hB5.out.trans (hb6.mono hB5.out.size))
    have hslB6 := Lib.hid (hsl5.out.up hb6)
    have hfl : (framesF (batchF k full3)).length ≤ 789 := batchF_bound k full3
    have hcm := commit_done (by omega) (by omega) hL6.out hB6.out.size (by have := hus.out; omega) A6 3 c6 (batchF k full3) (by rw [batchF_length]; rfl) (by omega) hsl6 (batchF_notlong _ _) (by have := hus.out; have : half 80 = 39 := rfl; omega)
    clear hL5 hB5 hsl5 hsl6 hb6
    go_wp2_with fail
    refine hcm.mono ?_
    clear hcm
    rintro e w7 ⟨l7, q7, rfl, hD7, _, _⟩
    have hL7 := Lib.hid hD7.lg
    have hB7 := Lib.hid (hB6.out.trans hD7.bel)
    have hsl7 := Lib.hid (hD7.keep _ _ hslB6.out)
    have hser7 : Hid (l7.serial ≤ 4 * k + 2) := Lib.hid (by have := hD7.ser; have := hus.out; omega)
    have hrs := reset_done (by omega) (by omega) hL7.out hB7.out.size (by have := hser7.out; omega) A2 m c2 LB hLl.out (by omega) hsl7.out hLt.out (by have := hLf.out; have : half 80 = 39 := rfl; omega)
    clear hD7 hL6 hB6 hslB6 hus hall
    go_wp2_with fail
    refine hrs.mono ?_
    clear hrs
    rintro e w8 ⟨l8, q8, rfl, hD8, hu8, _⟩
    have hL8 := Lib.hid hD8.lg
    have hB8 := Lib.hid (hB7.out.trans hD8.bel)
    have hsl8 := Lib.hid (hD8.keep _ _ hsl7.out)
    have hus8 : Hid (l8.used ≤ 1578 ∧ l8.serial ≤ 4 * (k + 1)) := Lib.hid (by have := hD8.ser; have := hser7.out; have := hLf.out; omega)
    have hct := count_lg hL8.out
    rw [hLl.out] at hct
    clear hD8 hL7 hB7 hsl7 hu8 hser7
    go_wp2_with fail
    refine hct.mono ?_
    clear hct
    rintro e w9 ⟨rfl, e9⟩
    rw [e9]
    clear e9 w9
    go_wp2_with fail
    refine ⟨⟨k + 1, l8, q8, LB, by omega, by simp, hL8, Lib.hid (.inr rfl), hus8, hB8, hsl8⟩, by simp [intOf]; omega⟩
  · obtain rfl : k = K := by omega
    have hki : ¬ (k : Int) < (n : Int) % 40 + 1 := by rw [hKi.out]; omega
    have hallB : Hid (all = LB) := Lib.hid (by rcases hall.out with ⟨h, _⟩ | h
                                               · have := hKi.out; omega
                                               · exact h)
    have hLb : Hid (Lg W.heap.size 80 256 gl gq l q wr LB) := Lib.hid (by rw [← hallB.out]; exact hL.out)
    have hop := reopen_lg (by omega) (by omega) hLb.out hB.out.size
    rw [hLl.out] at hop
    go_wp2_with fail
    refine hop.mono ?_
    clear hop
    rintro e w5 ⟨q5, l5, A5, c5, rfl, _, _, _, _, hb5, hkp, hsl5, hc5⟩
    have hB5 := Lib.hid (hB.out.trans hb5)
    have hsm := same_any w5 A5 A2 m m c5 c2 LB LB hLl.out hLl.out (by omega) (by omega) hsl5 (hkp _ _ hsl.out)
    have hd : decide (LB = LB) = true := by simp
    rw [hd] at hsm
    clear hb5 hkp hsl5 hc5 hd
    go_wp2_with fail
    refine hsm.mono ?_
    clear hsm
    rintro e w6 ⟨rfl, hb6⟩
    have hfin : Hid (Below W.heap.size W w6) := Lib.hid (hB5.out.trans (hb6.mono hB5.out.size))
    clear hb6
    go_wp2_with fail
    go_ret
    exact ⟨rfl, hfin.out⟩
end Go.Proofs.Ytncddkbagmelkaa
