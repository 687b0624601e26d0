/-
  The walk of the statement WalKeeps.
-/
import Derived.Test.YtncddkbagmelkaaWj
namespace Go.Proofs.Ytncddkbagmelkaa
open Go.RowKit Go.Deep

section
variable {B n s gl gq : Nat} {l : LR} {q : DR} {w : World} {all : List (List UInt8)}
theorem room_lg (hn1 : 16 ≤ n) (h : Lg B n s gl gq l q w all) : Calls Try.prog 24 #[.pointer (some ⟨gl, 0, none⟩)] w fun e w' => e = .returned (.int .i64 ((half n * s - (framesF all).length : Nat) : Int)) ∧ Below w.heap.size w w' := by
  have hf : l.used ≤ half n * s := h.st.good.fits
  have := room_any w l q h.st.log h.st.disk (by rw [h.st.hn]; exact hn1) (by rw [h.st.hn, h.st.hsz]; exact hf)
  rw [h.el, h.st.hn, h.st.hsz, show l.used = (framesF all).length from h.st.good.used] at this
  exact this
/-- A commit, where there is power: done, or there is no room. -/
theorem commit_room (hn1 : 16 ≤ n) (hs : 128 ≤ s) (h : Lg B n s gl gq l q w all) (hB : B ≤ w.heap.size) (hser : l.serial + 2 ≤ 4611686018427387904) (A : Option Addr) (m c : Nat) (ls : List (List UInt8)) (hln : ls.length = m) (hm : m ≤ 100000) (hsl : Slices w w.heap.size A ls) (ht : tooLong ls = false) :
    Calls Try.prog 14 #[.pointer (some ⟨gl, 0, none⟩), .slice A m c] w fun e w' => ∃ l' q' code next, e = .returned (.int .i64 (code : Nat)) ∧ Lg B n s gl gq l' q' w' next ∧ l'.serial ≤ l.serial + 2 ∧ Below B w w' ∧ KeepS w w' ∧ ((code = 0 ∧ next = all ++ ls) ∨ (code = 40 ∧ next = all ∧ half n * s - (framesF all).length < (framesF ls).length)) := by
  have hc := commit_law hn1 hs h.st hser A m c ls hln hm hsl
  rw [h.el] at hc
  refine hc.mono fun e w' hE => ?_
  obtain ⟨l', q', code, rfl, hst, hput, hlive⟩ := hE
  obtain ⟨b1, b2, b3⟩ := hst.hi hB h.hi (by rw [h.el]; exact h.low)
  have hk := KeepS.lstep hst h.st.log h.st.disk
  by_cases h0 : code = 0
  · obtain ⟨h1, h2, _, _⟩ := hput.stands h.st hst h0
    exact ⟨l', q', code, _, rfl, ⟨h1, b2, hst.lg.trans h.el, hst.g.trans h.eq, h.low, (hlive h.cut).2⟩, h2, b1, hk, .inl ⟨h0, rfl⟩⟩
  · obtain ⟨h1, h2, h3⟩ := hput.refused h.st hst h0 (hlive h.cut).1
    rcases h3 with ⟨_, h4⟩ | ⟨h4, _, h5⟩
    · rw [ht] at h4; cases h4
    · have hu : l.used = (framesF all).length := h.st.good.used
      exact ⟨l', q', code, all, rfl, ⟨h1, b2, hst.lg.trans h.el, hst.g.trans h.eq, h.low, (hlive h.cut).2⟩, by rw [h2]; omega, b1, hk, .inr ⟨h4, rfl, by rw [← hu]; exact h5⟩⟩
end
theorem batchF_short255 (i : Nat) (lens : List UInt8) : ∀ r ∈ batchF i lens, r.length ≤ 255 := fun r hr => by
  simp only [batchF, List.mem_map] at hr
  obtain ⟨k, _, rfl⟩ := hr
  rw [recF_length]
  have := (lens.getD k 0).toNat_lt
  omega
set_option maxRecDepth 100000 in
set_option maxHeartbeats 8000000 in
theorem keeps_walk (W : World) (v0 v1 : Value) (o0 : ArgOk 5 W v0) (o1 : ArgOk 45 W v1) :
    Calls Try.prog 6 #[v0, v1] W fun e w' => e = .returned (.bool true) ∧ Below W.heap.size W w' := by
  obtain ⟨iS, hiS, hzS0, hzS1, hzS2⟩ := info_parts Try.rSl
  obtain ⟨n, rfl, hn⟩ := o0.u8
  obtain ⟨A, m, c, acts, rfl, hlm, hmc, hcm, hac⟩ := o1.acts
  clear o0 o1
  have hkn := known_any W
  have hac' := Lib.hid hac
  have hlm' := Lib.hid hlm
  have hmx : m ≤ maxLen := by omega
  clear hac hlm hmc hcm
  go_enter Try.func6, Try.ntmps6
  go_wp2_with fail
  refine hkn.mono ?_
  clear hkn
  rintro e w1 ⟨rfl, hb1⟩
  have hB1 := Lib.hid hb1
  clear hb1
  have hlt := light_any W w1 hB1.out A m c acts hlm'.out hmx hac'.out
  go_wp2_with fail
  refine hlt.mono ?_
  clear hlt
  rintro e w2 ⟨rfl, hb2⟩
  have hB2 := Lib.hid (hB1.out.trans (hb2.mono hB1.out.size))
  clear hb2 hB1 hmx
  cases hli : lightF acts with
  | false =>
    go_wp2_with fail
    go_ret
    exact ⟨rfl, hB2.out⟩
  | true =>
  have hlens := Lib.hid (lightF_lens hli)
  have hm30 : m ≤ 30 := by rw [← hlm'.out]; exact hlens.out.1
  clear hli
  obtain ⟨k, hk⟩ : ∃ k, k = 60 + n := ⟨_, rfl⟩
  have hkw : IntKind.i64.wrap (60 + (n : Int)) = (k : Int) := by rw [IntWalk.i64_in _ (by omega)]; omega
  have hks : (60 : Int) + (n : Int) = (k : Int) := by omega
  have hkl : 60 ≤ k ∧ k ≤ 315 := by omega
  clear hk
  have hnd : Calls Try.prog 12 #[.int .i64 k, .int .i64 256] w2 _ := newd_any w2 k 256 (by omega) (by omega) (by omega) (by omega)
  go_wp2_with fail
  refine hnd.mono ?_
  clear hnd
  rintro e w3 ⟨q0, rfl, hN, hge, hb3, hF⟩
  have hB3 := Lib.hid (hB2.out.trans (hb3.mono hB2.out.size))
  have hop := open_new (B := W.heap.size) (by omega) (by omega) hN (fun x hx => Nat.le_trans hB2.out.size (hF x hx)) hB3.out.size
  clear hN hge hb3 hF
  go_wp2_with fail
  refine hop.mono ?_
  clear hop
  rintro e w4 ⟨q1, l1, c1, A1, rfl, hL, hs0, hu0, hb4, _⟩
  have hB4 := Lib.hid (hB3.out.trans hb4)
  obtain ⟨gq, hgq⟩ : ∃ g, g = q0.g := ⟨_, rfl⟩
  rw [← hgq] at hL ⊢
  have hL4 := Lib.hid hL
  have hse4 : Hid (l1.serial = 0) := Lib.hid hs0
  clear hb4 hgq hL hs0 hu0
  have hrm := room_lg (by omega) hL4.out
  obtain ⟨R, hR⟩ : ∃ R, R = half k * 256 := ⟨_, rfl⟩
  have hRl : 128 * k - 512 ≤ R ∧ 128 * k ≤ R + 512 ∧ 7000 ≤ R ∧ R ≤ 1000000 := by unfold half at hR; omega
  rw [← hR, show (framesF []).length = 0 from rfl, Nat.sub_zero] at hrm
  have hR' := Lib.hid hR
  clear hR
  have hq1 : IntKind.i64.wrap ((k : Int) * 256) = (k : Int) * 256 := IntWalk.i64_in _ (by omega)
  have hq2 : (k : Int) * 256 / 4 = (k : Int) * 64 := by omega
  have hq3 : IntKind.i64.wrap ((k : Int) * 64) = (k : Int) * 64 := IntWalk.i64_in _ (by omega)
  have hq4 : IntKind.i64.wrap ((k : Int) * 64 - 1024) = (k : Int) * 64 - 1024 := IntWalk.i64_in _ (by omega)
  have hq5 : ¬ (R : Int) < (k : Int) * 64 - 1024 := by omega
  have hq6 : decide ((R : Int) < (k : Int) * 64 - 1024) = false := decide_eq_false hq5
  go_wp2_with fail
  refine hrm.mono ?_
  clear hrm
  rintro e w5 ⟨rfl, hb5⟩
  have hB5 := Lib.hid (hB4.out.trans (hb5.mono hB4.out.size))
  have hL5 := Lib.hid (hL4.out.below hb5)
  clear hb5 hL4 hB4
  go_wp2_with fail
  clear hq1 hq2 hq3 hq4 hq5 hq6
  go_loopw [7, 10, 11] (fun jv av iv wr => ∃ (i : Nat) (l : LR) (q : DR) (all : List (List UInt8)) (Aa : Option Addr) (N ca : Nat), i ≤ m ∧ iv = .int .i64 i ∧ jv = .pointer (some ⟨l.g, 0, none⟩) ∧ av = .slice Aa N ca ∧ Hid (Lg W.heap.size k 256 l.g gq l q wr all) ∧ Hid (all.length = N ∧ N ≤ 6 * i ∧ N ≤ ca) ∧ Hid (l.serial ≤ 2 * i) ∧ Hid (Below W.heap.size W wr) ∧ Hid (Slices wr wr.heap.size Aa all)) (fun _ _ iv _ => m - (intOf iv).toNat)
  case atStart => exact ⟨0, l1, q1, [], none, 0, 0, by omega, rfl, rfl, rfl, hL5, Lib.hid ⟨rfl, by omega, by omega⟩, Lib.hid (by rw [hse4.out]; omega), hB5, Lib.hid ⟨[], rfl, Row.nil_ _ _ _, fun i hi => by simp at hi⟩⟩
  obtain ⟨i, l, q, all, Aa, N, ca, hi, rfl, rfl, rfl, hL, hN, hse, hB, hsl⟩ := hrel
  by_cases him : i < m
  · have hii : (i : Int) < (m : Int) := by omega
    have hil : i < acts.length := by rw [hlm'.out]; exact him
    obtain ⟨b, off, rfl, hc0, hc1, hby⟩ := hac'.out.at_ hB.out hil
    have hl6 := hlens.out.2 acts[i] (List.getElem_mem hil)
    obtain ⟨a, ha⟩ : ∃ a, a = acts[i] := ⟨_, rfl⟩
    rw [← ha] at hc0 hc1 hby hl6
    clear ha hil
    obtain ⟨what, aA, ac, lens⟩ := a
    simp only at hc0 hc1 hby hl6
    obtain ⟨kk, hkk⟩ : ∃ k, k = lens.length := ⟨_, rfl⟩
    rw [← hkk] at hc1 hl6
    have hiw : IntKind.i64.wrap ((i : Int) + 1) = ((i + 1 : Nat) : Int) := by rw [IntWalk.i64_in _ (by omega)]; omega
    have hbt : Calls Try.prog 15 #[.int .i64 i, .slice aA kk ac] wr _ := batch_sl wr i (by omega) aA kk ac lens hkk.symm (by omega) hby
    obtain ⟨LB, hLB⟩ : ∃ L, L = batchF i lens := ⟨_, rfl⟩
    have hLl : Hid (LB.length = kk) := Lib.hid (by rw [hLB, batchF_length, hkk])
    have hLt : Hid (tooLong LB = false) := Lib.hid (by rw [hLB]; exact batchF_notlong _ _)
    have hLr : Hid (∀ r ∈ LB, r.length ≤ 255) := Lib.hid (by rw [hLB]; exact batchF_short255 _ _)
    have hLf : Hid ((framesF LB).length ≤ 1578) := Lib.hid (by have := batchF_bound i lens; rw [← hLB, ← hkk] at this; omega)
    rw [← hLB] at hbt
    clear hkk hLB hby
    go_wp2_with fail
    refine hbt.mono ?_
    clear hbt
    rintro e w6 ⟨A2, c2, rfl, hsb, hc2, hb6⟩
    have hL6 := Lib.hid (hL.out.below hb6)
    have hB6 := Lib.hid (hB.out.trans (hb6.mono hB.out.size))
    have hsl6 := Lib.hid (hsl.out.up hb6)
    have hsb6 := Lib.hid hsb
    have c0' : w6.cell? ⟨b, off + i * 2, none⟩ = some (.int .i64 what) := (hb6.cell (p := ⟨b, off + i * 2, none⟩) (cell_lt hc0)).trans hc0
    have hrm := room_lg (by omega) hL6.out
    obtain ⟨F, hF⟩ : ∃ F, F = (framesF all).length := ⟨_, rfl⟩
    have hFl : Hid (F ≤ R) := Lib.hid (by
      rw [hF, hR'.out]
      have h1 : l.used = (framesF all).length := hL6.out.st.good.used
      have h2 : l.used ≤ half k * 256 := hL6.out.st.good.fits
      omega)
    rw [← hR'.out, ← hF] at hrm
    have hF' := Lib.hid hF
    obtain ⟨RM, hRM⟩ : ∃ r, r = R - F := ⟨_, rfl⟩
    rw [← hRM] at hrm
    have hRM' := Lib.hid hRM
    have hRMl : RM ≤ 1000000 := by omega
    clear hsb hb6 hF hRM hc0 hc1 hL hB hsl
    go_wp2_with fail
    refine hrm.mono ?_
    clear hrm
    rintro e w7 ⟨rfl, hb7⟩
    have hL7 := Lib.hid (hL6.out.below hb7)
    have hB7 := Lib.hid (hB6.out.trans (hb7.mono hB6.out.size))
    have hsl7 := Lib.hid (hsl6.out.up hb7)
    have hsb7 := Lib.hid (hsb6.out.up hb7)
    have c0 : w7.cell? ⟨b, off + i * 2, none⟩ = some (.int .i64 what) := (hb7.cell (p := ⟨b, off + i * 2, none⟩) (cell_lt c0')).trans c0'
    clear hb7 hL6 hB6 hsl6 hsb6 c0'
    by_cases h5 : what = 5
    · subst h5
      have hop := reopen_lg (by omega) (by omega) hL7.out hB7.out.size
      rw [hN.out.1] at hop
      go_wp2_with fail
      refine hop.mono ?_
      clear hop
      rintro e w8 ⟨q8, l8, A8, c8, rfl, hL8, _, hse8, _, hb8, hk8, hs8, hc8⟩
      have hB8 := Lib.hid (hB7.out.trans hb8)
      have hsl8 := Lib.hid (hk8 _ _ hsl7.out)
      have hsm := same_any w8 A8 Aa N N c8 ca all all hN.out.1 hN.out.1 (by have := hN.out; omega) (by have := hN.out; omega) hs8 hsl8.out
      rw [decide_eq_true (rfl : all = all)] at hsm
      have hL8' := Lib.hid hL8
      have hse8' : Hid (l8.serial ≤ 2 * (i + 1)) := Lib.hid (by have := hse.out; omega)
      clear hb8 hk8 hs8 hc8 hL8 hse8 hL7 hB7 hsl7 hsb7
      go_wp2_with fail
      refine hsm.mono ?_
      clear hsm
      rintro e w9 ⟨rfl, hb9⟩
      have hL9 := Lib.hid (hL8'.out.below hb9)
      have hB9 := Lib.hid (hB8.out.trans (hb9.mono hB8.out.size))
      have hsl9 := Lib.hid (hsl8.out.up hb9)
      clear hb9
      go_wp2_with fail
      refine ⟨⟨i + 1, l8, q8, all, Aa, N, ca, by omega, by simp, rfl, rfl, hL9, Lib.hid (by have := hN.out; omega), hse8', hB9, hsl9⟩, by simp [intOf]; omega⟩
    by_cases h4 : what = 4
    · subst h4
      have hrs := reset_done (by omega) (by omega) hL7.out hB7.out.size (by have := hse.out; omega) A2 kk c2 LB hLl.out (by omega) hsb7.out hLt.out (by rw [← hR'.out]; have := hLf.out; omega)
      go_wp2_with fail
      refine hrs.mono ?_
      clear hrs
      rintro e w8 ⟨l8, q8, rfl, hD8, _, _⟩
      have hB8 := Lib.hid (hB7.out.trans hD8.bel)
      have hsb8 := Lib.hid (hD8.keep _ _ hsb7.out)
      have hse8 : Hid (l8.serial ≤ 2 * (i + 1)) := Lib.hid (by have := hse.out; have := hD8.ser; omega)
      have hel8 : Hid (l8.g = l.g) := Lib.hid hD8.lg.el
      have hL8 := Lib.hid hD8.lg
      have hct := count_lg hL8.out
      rw [hLl.out] at hct
      clear hD8 hL7 hB7 hsl7 hsb7
      go_wp2_with fail
      refine hct.mono ?_
      clear hct
      rintro e w9 ⟨rfl, e9⟩
      rw [e9]
      clear e9 w9
      go_wp2_with fail
      refine ⟨⟨i + 1, l8, q8, LB, A2, kk, c2, by omega, by simp, by rw [hel8.out], rfl, by rw [hel8.out]; exact hL8, Lib.hid ⟨hLl.out, by omega, hc2⟩, hse8, hB8, hsb8⟩, by simp [intOf]; omega⟩
    · have hcm := commit_room (by omega) (by omega) hL7.out hB7.out.size (by have := hse.out; omega) A2 kk c2 LB hLl.out (by omega) hsb7.out hLt.out
      obtain ⟨S, hS⟩ : ∃ S, S = sizeF LB := ⟨_, rfl⟩
      have hSl : Hid (S = (framesF LB).length + kk * 8) := Lib.hid (by rw [hS]; unfold sizeF; rw [hLl.out])
      have hS' := Lib.hid hS
      have hSb : S ≤ 10000 := by have := hSl.out; have := hLf.out; omega
      clear hS
      go_wp2_with fail
      refine hcm.mono ?_
      clear hcm
      rintro e w8 ⟨l8, q8, code, next, rfl, hL8, hse8, hb8, hk8, hcase⟩
      have hB8 := Lib.hid (hB7.out.trans hb8)
      have hsb8 := Lib.hid (hk8 _ _ hsb7.out)
      have hsl8 := Lib.hid (hk8 _ _ hsl7.out)
      have hse8' : Hid (l8.serial ≤ 2 * (i + 1)) := Lib.hid (by have := hse.out; omega)
      have hel8 : Hid (l8.g = l.g) := Lib.hid hL8.el
      have hL8' := Lib.hid hL8
      have hsz := sizel_any w8 A2 kk c2 LB hLl.out (by omega) hLr.out hsb8.out
      rw [← hS'.out] at hsz
      have hws : IntKind.i64.wrap ((S : Int) + 512) = (S : Int) + 512 := IntWalk.i64_in _ (by omega)
      clear hb8 hk8 hse8 hL8 hL7 hB7 hsl7 hsb7
      rcases hcase with ⟨hcd, hnx⟩ | ⟨hcd, hnx, hful⟩
      · subst hcd
        have hnx' := Lib.hid hnx
        clear hnx hsz
        obtain ⟨vx, hvx, hrx, hix⟩ := hsl8.out
        obtain ⟨vy, hvy, hry, hiy⟩ := hsb8.out
        have hrx' := Lib.hid hrx
        have hry' := Lib.hid hry
        have hix' := Lib.hid hix
        have hiy' := Lib.hid hiy
        have hvx' : Hid (vx.length = N) := Lib.hid (hvx.trans hN.out.1)
        have hvy' : Hid (vy.length = kk) := Lib.hid (hvy.trans hLl.out)
        have hox : Hid (∀ u ∈ vx, u.oneCell' = true) := Lib.hid (vals_one hvx hix)
        have hoy : Hid (∀ u ∈ vy, u.oneCell' = true) := Lib.hid (vals_one hvy hiy)
        have hNb : N ≤ 200 := by have := hN.out; omega
        clear hvx hvy hrx hry hix hiy
        go_upto_region 22 with (first
          | (with_reducible refine at_slot 92 ?_
             go_loud (refine wpList_append_row _ rfl _ (.tmp 91) 28 rfl w8.heap.size 23 iS (.slice none 0 0) 24 Try.underlying28 hiS hzS0 hzS1 hzS2 rfl (.slice none 0 0) 0 [] rfl (World.ownsRow_nil _ _ _ _) _ Aa N ca vx rfl hvx'.out hrx'.out hox.out (by unfold maxLen; omega) (by omega) (Nat.le_refl _) ?_)
             intro v9 w9 ho9 hg9 _
             have ho9' := Lib.hid ho9
             have hb9 : Hid (Below w8.heap.size w8 w9) := Lib.hid (grown_none hg9)
             clear ho9 hg9)
          | (with_reducible refine at_slot 94 ?_
             go_loud (refine wpList_append_row _ rfl (.tmp 92) (.tmp 93) 28 rfl w8.heap.size 23 iS (.slice none 0 0) 24 Try.underlying28 hiS hzS0 hzS1 hzS2 rfl v9 (0 + N) ([] ++ vx) rfl ho9'.out _ A2 kk c2 vy rfl hvy'.out ((hry'.out.below hb9.out).more hb9.out.size) hoy.out (by unfold maxLen; omega) (by omega) hb9.out.size ?_)
             intro v10 w10 ho10 hg10 _
             have ho10' := Lib.hid ho10
             have hb10 : Hid (Below w8.heap.size w8 w10) := Lib.hid (hb9.out.trans ((Writes.of_grown hg10 (M := [v9.ownBlock]) (by simp)).below hb9.out.size (fun j hj => own_ge ho9'.out (List.mem_singleton.1 hj).symm)))
             clear ho10 hg10))
        obtain ⟨mab, hmab⟩ : ∃ k, k = N + kk := ⟨_, rfl⟩
        have ho11 : w10.ownsRow w8.heap.size 23 1 v10 mab (vx ++ vy) := by rw [hmab]; simpa using ho10'.out
        obtain ⟨A10, c10, e10, hsa10, hca10⟩ := slices_joined (x := all) (y := LB) ho11 hb10.out (hvx'.out.trans hN.out.1.symm) (hvy'.out.trans hLl.out.symm) hix'.out hiy'.out
        subst e10
        have hnxl : Hid (next.length = mab) := Lib.hid (by rw [hnx'.out, List.length_append, hN.out.1, hLl.out, hmab])
        have hml : mab ≤ 6 * (i + 1) := by have := hN.out; omega
        have hsn10 : Hid (Slices w10 w10.heap.size A10 next) := Lib.hid (by rw [hnx'.out]; exact hsa10)
        have hB10 := Lib.hid (hB8.out.trans (hb10.out.mono hB8.out.size))
        have hL10 := Lib.hid (hL8'.out.below hb10.out)
        have hsb10 := Lib.hid (hsb8.out.up hb10.out)
        have hrm := room_lg (by omega) hL10.out
        obtain ⟨F2, hF2⟩ : ∃ F, F = (framesF next).length := ⟨_, rfl⟩
        have hF2l : F2 ≤ R ∧ F2 + kk * 8 = F + S := by
          refine ⟨?_, ?_⟩
          · rw [hF2, hR'.out]
            have h1 : l8.used = (framesF next).length := hL10.out.st.good.used
            have h2 : l8.used ≤ half k * 256 := hL10.out.st.good.fits
            omega
          · rw [hF2, hnx'.out, framesF_append, List.length_append, ← hF'.out]
            have := hSl.out
            omega
        rw [← hR'.out, ← hF2] at hrm
        obtain ⟨R2, hR2⟩ : ∃ r, r = R - F2 := ⟨_, rfl⟩
        rw [← hR2] at hrm
        have hge : ¬ (R2 : Int) < (RM : Int) - (S : Int) - 512 := by have := hRM'.out; omega
        have hgd : decide ((R2 : Int) < (RM : Int) - (S : Int) - 512) = false := decide_eq_false hge
        have hw3 : IntKind.i64.wrap ((RM : Int) - (S : Int)) = (RM : Int) - (S : Int) := IntWalk.i64_in _ (by omega)
        have hw4 : IntKind.i64.wrap ((RM : Int) - (S : Int) - 512) = (RM : Int) - (S : Int) - 512 := IntWalk.i64_in _ (by omega)
        clear hF2 hF2l hR2 hmab ho11 ho9' ho10' hb9 hb10 hix' hiy' hrx' hry' hox hoy hvx' hvy' hsl8 hsb8 hB8 hL8' hsa10 hws
        go_wp2_with fail
        refine hrm.mono ?_
        clear hrm
        rintro e w11 ⟨rfl, hb11⟩
        have hB11 := Lib.hid (hB10.out.trans (hb11.mono hB10.out.size))
        have hL11 := Lib.hid (hL10.out.below hb11)
        have hsn11 := Lib.hid (hsn10.out.up hb11)
        have hsz := sizel_any w11 A2 kk c2 LB hLl.out (by omega) hLr.out (hsb10.out.up hb11)
        rw [← hS'.out] at hsz
        clear hb11 hB10 hL10 hsn10 hsb10
        go_wp2_with fail
        refine hsz.mono ?_
        clear hsz
        rintro e w12 ⟨rfl, hb12⟩
        have hB12 := Lib.hid (hB11.out.trans (hb12.mono hB11.out.size))
        have hL12 := Lib.hid (hL11.out.below hb12)
        have hsn12 := Lib.hid (hsn11.out.up hb12)
        have hct := count_lg hL12.out
        rw [hnxl.out] at hct
        clear hb12 hB11 hL11 hsn11
        go_wp2_with fail
        refine hct.mono ?_
        clear hct
        rintro e w13 ⟨rfl, e13⟩
        rw [e13]
        clear e13 w13
        clear hge hgd hw3 hw4
        go_wp2_with fail
        refine ⟨⟨i + 1, l8, q8, next, A10, mab, c10, by omega, by simp, by rw [hel8.out], rfl, by rw [hel8.out]; exact hL12, Lib.hid ⟨hnxl.out, hml, hca10⟩, hse8', hB12, hsn12⟩, by simp [intOf]; omega⟩
      · subst hcd
        have hnx' := Lib.hid hnx
        have hlt2 : ¬ (S : Int) + 512 ≤ (RM : Int) := by
          have h1 := hSl.out
          have h2 := hRM'.out
          have h3 := hF'.out
          have h4 := hR'.out
          rw [← h4, ← h3] at hful
          omega
        have hlt3 : decide ((S : Int) + 512 ≤ (RM : Int)) = false := decide_eq_false hlt2
        clear hnx hful
        go_wp2_with fail
        refine hsz.mono ?_
        clear hsz
        rintro e w9 ⟨rfl, hb9⟩
        have hB9 := Lib.hid (hB8.out.trans (hb9.mono hB8.out.size))
        have hL9 : Hid (Lg W.heap.size k 256 l.g gq l8 q8 w9 all) := Lib.hid (by have := hL8'.out.below hb9; rw [hnx'.out] at this; exact this)
        have hsl9 := Lib.hid (hsl8.out.up hb9)
        have hct := count_lg hL9.out
        rw [hN.out.1] at hct
        clear hb9 hL8' hsl8 hB8
        go_wp2_with fail
        refine hct.mono ?_
        clear hct
        rintro e w10 ⟨rfl, e10⟩
        rw [e10]
        clear e10 w10 hlt2 hlt3 hws
        go_wp2_with fail
        refine ⟨⟨i + 1, l8, q8, all, Aa, N, ca, by omega, by simp, by rw [hel8.out], rfl, by rw [hel8.out]; exact hL9, Lib.hid (by have := hN.out; omega), hse8', hB9, hsl9⟩, by simp [intOf]; omega⟩
  · obtain rfl : i = m := by omega
    have hii : ¬ (i : Int) < (i : Int) := by omega
    have hop := reopen_lg (by omega) (by omega) hL.out hB.out.size
    rw [hN.out.1] at hop
    go_wp2_with fail
    refine hop.mono ?_
    clear hop
    rintro e w8 ⟨q8, l8, A8, c8, rfl, _, _, _, _, hb8, hk8, hs8, hc8⟩
    have hB8 := Lib.hid (hB.out.trans hb8)
    have hsm := same_any w8 A8 Aa N N c8 ca all all hN.out.1 hN.out.1 (by have := hN.out; omega) (by have := hN.out; omega) hs8 (hk8 _ _ hsl.out)
    rw [decide_eq_true (rfl : all = all)] at hsm
    clear hb8 hk8 hs8 hc8
    go_wp2_with fail
    refine hsm.mono ?_
    clear hsm
    rintro e w9 ⟨rfl, hb9⟩
    have hfin : Hid (Below W.heap.size W w9) := Lib.hid (hB8.out.trans (hb9.mono hB8.out.size))
    clear hb9
    go_wp2_with fail
    go_ret
    exact ⟨rfl, hfin.out⟩
end Go.Proofs.Ytncddkbagmelkaa
