/-
  The walk of the statement WalFalls.
-/
import Derived.Test.YtncddkbagmelkaaWj
namespace Go.Proofs.Ytncddkbagmelkaa
open Go.RowKit Go.Deep

/-- A log that stands, new since B; its power may fail later. -/
structure Lf (B n s gq : Nat) (l : LR) (q : DR) (w : World) (all : List (List UInt8)) : Prop where
  st : LogS n s l q w all
  hi : Hi B q
  eq : q.g = gq
  low : B ≤ l.g
theorem Lf.below {B n s gq : Nat} {l : LR} {q : DR} {w w' : World} {all : List (List UInt8)} (h : Lf B n s gq l q w all) (hb : Below w.heap.size w w') : Lf B n s gq l q w' all := ⟨h.st.below hb, h.hi, h.eq, h.low⟩
/-- How a put ends: done, no room, or without power. -/
def FallR (B n s gq : Nat) (l : LR) (all next : List (List UInt8)) (l' : LR) (q' : DR) (w' : World) (code : Nat) : Prop :=
  (code = 0 ∧ Lf B n s gq l' q' w' next ∧ l'.serial ≤ l.serial + 2) ∨ code = 40 ∨
  (code = 32 ∧ q'.dead = true ∧ DiskP q' w' ∧ Hi B q' ∧ q'.g = gq ∧ q'.n = n ∧ q'.size = s ∧ ∀ q2, Crashed q' q2 → ∃ h' slot' all', Good q2.abs.last n s h' slot' all' ∧ h'.serial ≤ l.serial + 2 ∧ (all' = next ∨ all' = all))
theorem FallR.of_put {B n s gq : Nat} {l l' : LR} {q q' : DR} {w w' : World} {all next ls : List (List UInt8)} {h0 : Hdr} {code : Nat} (hput : PutR q.abs l h0 ls all next n s (q'.abs, l', code)) (h : Lf B n s gq l q w all) (hst : LStep l q w l' q' w') (hB : B ≤ w.heap.size) (ht : tooLong ls = false) : FallR B n s gq l all next l' q' w' code := by
  obtain ⟨b1, b2, b3⟩ := hst.hi hB h.hi h.low
  by_cases h0 : code = 0
  · obtain ⟨h1, h2, _, _⟩ := hput.stands h.st hst h0
    exact .inl ⟨h0, ⟨h1, b2, hst.g.trans h.eq, b3⟩, h2⟩
  · by_cases h32 : code = 32
    · refine .inr (.inr ⟨h32, ?_, hst.post, b2, hst.g.trans h.eq, hput.same.1.trans h.st.hn, hput.same.2.trans h.st.hsz, fun q2 hc => ?_⟩)
      · cases hput with
        | long h1 _ => have := congrArg (fun x => x.2.2) h1; simp at this; omega
        | full h1 _ _ => have := congrArg (fun x => x.2.2) h1; simp at this; omega
        | done h1 => exact absurd h1 h0
        | dead _ _ h3 => exact h3
      · obtain ⟨h', slot', all', h1, h2, h3⟩ := hput.crashed h.st hc
        exact ⟨h', slot', all', h1, h2, h3.elim (fun e => .inl e.1) (fun e => .inr e.1)⟩
    · obtain ⟨_, _, h3⟩ := hput.refused h.st hst h0 h32
      rcases h3 with ⟨_, h4⟩ | ⟨h4, _⟩
      · rw [ht] at h4; cases h4
      · exact .inr (.inl h4)
set_option maxRecDepth 100000 in
set_option maxHeartbeats 8000000 in
theorem falls_walk (W : World) (v0 v1 v2 v3 : Value) (o0 : ArgOk 5 W v0) (o1 : ArgOk 45 W v1) (o2 : ArgOk 23 W v2) (o3 : ArgOk 63 W v3) :
    Calls Try.prog 10 #[v0, v1, v2, v3] W fun e w' => e = .returned (.bool true) ∧ Below W.heap.size W w' := by
  obtain ⟨iS, hiS, hzS0, hzS1, hzS2⟩ := info_parts Try.rSl
  obtain ⟨n, rfl, hn⟩ := o0.u8
  obtain ⟨A, m, c, acts, rfl, hlm, hmc, hcm, hac⟩ := o1.acts
  obtain ⟨Ac, mc, cc, lc, rfl, hlc, hmcc, hccm, hbc⟩ := o2.bytes
  obtain ⟨Ak, mk, ck, lk, rfl, hlk, hmck, hckm, huk, hbk⟩ := o3.u64s
  clear o0 o1 o2 o3
  have hkn := known_any W
  have hac' := Lib.hid hac
  have hlm' := Lib.hid hlm
  have hbc' := Lib.hid hbc
  have hlc' := Lib.hid hlc
  have hbk' := Lib.hid hbk
  have hlk' := Lib.hid hlk
  have huk' := Lib.hid huk
  have hmx : m ≤ maxLen := by omega
  clear hac hlm hbc hlc hbk hlk huk hmc hcm hmcc hccm hmck hckm
  go_enter Try.func10, Try.ntmps10
  go_wp2_with fail
  refine hkn.mono ?_
  clear hkn
  rintro e w1 ⟨rfl, hb1⟩
  have hB1 := Lib.hid hb1
  clear hb1
  have hlt := light_any W w1 hB1.out A m c acts hlm'.out hmx hac'.out
  go_wp2_with fail
  refine hlt.mono ?_
  clear hlt
  rintro e w2 ⟨rfl, hb2⟩
  have hB2 := Lib.hid (hB1.out.trans (hb2.mono hB1.out.size))
  clear hb2 hB1 hmx
  cases hli : lightF acts with
  | false =>
    go_wp2_with fail
    go_ret
    exact ⟨rfl, hB2.out⟩
  | true =>
  have hlens := Lib.hid (lightF_lens hli)
  have hm30 : m ≤ 30 := by rw [← hlm'.out]; exact hlens.out.1
  clear hli
  by_cases hc30 : 30 < mc
  · have hmi : (30 : Int) < (mc : Int) := by omega
    go_wp2_with fail
    go_ret
    exact ⟨rfl, hB2.out⟩
  have hmi : ¬ (30 : Int) < (mc : Int) := by omega
  by_cases hk30 : 30 < mk
  · have hmj : (30 : Int) < (mk : Int) := by omega
    go_wp2_with fail
    go_ret
    exact ⟨rfl, hB2.out⟩
  have hmj : ¬ (30 : Int) < (mk : Int) := by omega
  obtain ⟨k, hk⟩ : ∃ k, k = 80 + n % 60 := ⟨_, rfl⟩
  have hkw : IntKind.i64.wrap (80 + (n : Int) % 60) = (k : Int) := by rw [IntWalk.i64_in _ (by omega)]; omega
  have hks : (80 : Int) + (n : Int) % 60 = (k : Int) := by omega
  have hkl : 80 ≤ k ∧ k ≤ 139 := by omega
  clear hk
  have hnd : Calls Try.prog 12 #[.int .i64 k, .int .i64 256] w2 _ := newd_any w2 k 256 (by omega) (by omega) (by omega) (by omega)
  go_wp2_with fail
  refine hnd.mono ?_
  clear hnd
  rintro e w3 ⟨q0, rfl, hN, hge, hb3, hF⟩
  have hB3 := Lib.hid (hB2.out.trans (hb3.mono hB2.out.size))
  have hop := open_new (B := W.heap.size) (by omega) (by omega) hN (fun x hx => Nat.le_trans hB2.out.size (hF x hx)) hB3.out.size
  clear hN hge hb3 hF
  go_wp2_with fail
  refine hop.mono ?_
  clear hop
  rintro e w4 ⟨q1, l1, c1, A1, rfl, hL, hs0, hu0, hb4, _⟩
  have hB4 := Lib.hid (hB3.out.trans hb4)
  obtain ⟨gq, hgq⟩ : ∃ g, g = q0.g := ⟨_, rfl⟩
  rw [← hgq] at hL ⊢
  have hL4 : Hid (Lf W.heap.size k 256 gq l1 q1 w4 []) := Lib.hid ⟨hL.st, hL.hi, hL.eq, hL.low⟩
  have hse4 : Hid (l1.serial = 0) := Lib.hid hs0
  clear hb4 hgq hL hs0 hu0 hkw hks
  go_wp2_with fail
  go_loopw [10, 13, 14] (fun jv av iv wr => ∃ (i : Nat) (l : LR) (q : DR) (all : List (List UInt8)) (Aa : Option Addr) (N ca : Nat), i ≤ m ∧ iv = .int .i64 i ∧ jv = .pointer (some ⟨l.g, 0, none⟩) ∧ av = .slice Aa N ca ∧ Hid (Lf W.heap.size k 256 gq l q wr all) ∧ Hid (all.length = N ∧ N ≤ 6 * i ∧ N ≤ ca) ∧ Hid (l.serial ≤ 2 * i) ∧ Hid (Below W.heap.size W wr) ∧ Hid (Slices wr wr.heap.size Aa all)) (fun _ _ iv _ => m - (intOf iv).toNat)
  case atStart => exact ⟨0, l1, q1, [], none, 0, 0, by omega, rfl, rfl, rfl, hL4, Lib.hid ⟨rfl, by omega, by omega⟩, Lib.hid (by rw [hse4.out]; omega), hB4, Lib.hid ⟨[], rfl, Row.nil_ _ _ _, fun i hi => by simp at hi⟩⟩
  obtain ⟨i, l, q, all, Aa, N, ca, hi, rfl, rfl, rfl, hL, hN, hse, hB, hsl⟩ := hrel
  by_cases him : i < m
  · have hii : (i : Int) < (m : Int) := by omega
    have hil : i < acts.length := by rw [hlm'.out]; exact him
    obtain ⟨b, off, hAe, hcW, hxx, hyy⟩ := hac'.out.at_ (Below.refl _ _) hil
    clear hxx hyy
    obtain ⟨b', off', hAe', hc0, hc1, hby⟩ := hac'.out.at_ hB.out hil
    obtain ⟨rfl, rfl⟩ : b = b' ∧ off = off' := by
      rw [hAe] at hAe'
      injection hAe' with e
      injection e with e1 e2
      exact ⟨e1, e2⟩
    subst hAe
    clear hAe'
    have hl6 := hlens.out.2 acts[i] (List.getElem_mem hil)
    obtain ⟨a, ha⟩ : ∃ a, a = acts[i] := ⟨_, rfl⟩
    rw [← ha] at hc0 hc1 hby hl6 hcW
    clear ha hil
    obtain ⟨what, aA, ac, lens⟩ := a
    simp only at hc0 hc1 hby hl6 hcW
    obtain ⟨kk, hkk⟩ : ∃ k, k = lens.length := ⟨_, rfl⟩
    rw [← hkk] at hc1 hl6
    have hiw : IntKind.i64.wrap ((i : Int) + 1) = ((i + 1 : Nat) : Int) := by rw [IntWalk.i64_in _ (by omega)]; omega
    have hcw : Hid (W.cell? ⟨b, off + i * 2, none⟩ = some (.int .i64 what)) := Lib.hid hcW
    clear hcW
    by_cases h5 : what = 5
    · subst h5
      clear hkk hby
      go_wp2_with fail
      refine ⟨⟨i + 1, l, q, all, Aa, N, ca, by omega, by simp, rfl, rfl, hL, Lib.hid (by have := hN.out; omega), Lib.hid (by have := hse.out; omega), hB, hsl⟩, by simp [intOf]; omega⟩
    have hbt : Calls Try.prog 15 #[.int .i64 i, .slice aA kk ac] wr _ := batch_sl wr i (by omega) aA kk ac lens hkk.symm (by omega) hby
    obtain ⟨LB, hLB⟩ : ∃ L, L = batchF i lens := ⟨_, rfl⟩
    have hLl : Hid (LB.length = kk) := Lib.hid (by rw [hLB, batchF_length, hkk])
    have hLt : Hid (tooLong LB = false) := Lib.hid (by rw [hLB]; exact batchF_notlong _ _)
    rw [← hLB] at hbt
    clear hkk hLB hby
    go_wp2_with fail
    refine hbt.mono ?_
    clear hbt
    rintro e w6 ⟨A2, c2, rfl, hsb, hc2, hb6⟩
    have hL6 := Lib.hid (hL.out.below hb6)
    have hB6 := Lib.hid (hB.out.trans (hb6.mono hB.out.size))
    have hsl6 := Lib.hid (hsl.out.up hb6)
    have hsb6 := Lib.hid hsb
    clear hsb hb6 hc0 hc1 hL hB hsl
    go_upto_if 75 with (fail)
    go_cut [17] (fun _ wc => ∃ q', Hid (Lf W.heap.size k 256 gq l q' wc all) ∧ Hid (Below W.heap.size W wc) ∧ Hid (Slices wc wc.heap.size Aa all) ∧ Hid (Slices wc wc.heap.size A2 LB))
    case' first =>
      by_cases hic : i < mc
      · obtain ⟨bc, oc, rfl, _, hcc⟩ := (hbc'.out.below hB6.out).at_ (k := i) (by rw [hlc'.out]; exact hic)
        obtain ⟨x, hx⟩ : ∃ x, x = (lc[i]'(by rw [hlc'.out]; exact hic)).toNat := ⟨_, rfl⟩
        have hxl : x < 256 := by rw [hx]; exact (lc[i]'(by rw [hlc'.out]; exact hic)).toNat_lt
        rw [← hx] at hcc
        clear hx
        have hici : (i : Int) < (mc : Int) := by omega
        have hK : 0 ≤ (x : Int) % 12 ∧ (x : Int) % 12 ≤ 1000000 := by omega
        have hct := cut_law hL6.out.st.disk ((x : Int) % 12) hK
        rw [hL6.out.eq] at hct
        go_wp2_with fail
        refine hct.mono ?_
        clear hct
        rintro e w7 ⟨rfl, q7, hst7, e1, e2, e3, e4, e5⟩
        have hS7 := hL6.out.st.cut hst7 e1 e2 e3 e4 e5
        obtain ⟨hb7, hF7⟩ := hst7.hi hB6.out.size hL6.out.hi
        have hL7 : Hid (Lf W.heap.size k 256 gq l q7 w7 all) := Lib.hid ⟨hS7, hF7, hst7.g.trans hL6.out.eq, hL6.out.low⟩
        have hB7 := Lib.hid (hB6.out.trans hb7)
        have hsl7 := Lib.hid (KeepS.dstep hst7 hL6.out.st.disk _ _ hsl6.out)
        have hsb7 := Lib.hid (KeepS.dstep hst7 hL6.out.st.disk _ _ hsb6.out)
        clear hst7 e1 e2 e3 e4 e5 hS7 hb7 hF7
        go_wp2_with fail
        go_meet
        case rel => exact ⟨q7, hL7, hB7, hsl7, hsb7⟩
      · have hici : ¬ (i : Int) < (mc : Int) := by omega
        go_wp2_with fail
        go_meet
        case rel => exact ⟨q, hL6, hB6, hsl6, hsb6⟩
    obtain ⟨q7, hL7, hB7, hsl7, hsb7⟩ := hcut
    rename World => w7
    clear hL6 hB6 hsl6 hsb6
    obtain ⟨vx, hvx, hrx, hix⟩ := hsl7.out
    obtain ⟨vy, hvy, hry, hiy⟩ := hsb7.out
    have hrx' := Lib.hid hrx
    have hry' := Lib.hid hry
    have hix' := Lib.hid hix
    have hiy' := Lib.hid hiy
    have hvx' : Hid (vx.length = N) := Lib.hid (hvx.trans hN.out.1)
    have hvy' : Hid (vy.length = kk) := Lib.hid (hvy.trans hLl.out)
    have hox : Hid (∀ u ∈ vx, u.oneCell' = true) := Lib.hid (vals_one hvx hix)
    have hoy : Hid (∀ u ∈ vy, u.oneCell' = true) := Lib.hid (vals_one hvy hiy)
    have hNb : N ≤ 200 := by have := hN.out; omega
    clear hvx hvy hrx hry hix hiy
    go_upto_region 18 with (first
      | (with_reducible refine at_slot 85 ?_
         go_loud (refine wpList_append_row _ rfl _ (.tmp 84) 28 rfl w7.heap.size 23 iS (.slice none 0 0) 24 Try.underlying28 hiS hzS0 hzS1 hzS2 rfl (.slice none 0 0) 0 [] rfl (World.ownsRow_nil _ _ _ _) _ Aa N ca vx rfl hvx'.out hrx'.out hox.out (by unfold maxLen; omega) (by omega) (Nat.le_refl _) ?_)
         intro v9 w9 ho9 hg9 _
         have ho9' := Lib.hid ho9
         have hb9 : Hid (Below w7.heap.size w7 w9) := Lib.hid (grown_none hg9)
         clear ho9 hg9)
      | (with_reducible refine at_slot 87 ?_
         go_loud (refine wpList_append_row _ rfl (.tmp 85) (.tmp 86) 28 rfl w7.heap.size 23 iS (.slice none 0 0) 24 Try.underlying28 hiS hzS0 hzS1 hzS2 rfl v9 (0 + N) ([] ++ vx) rfl ho9'.out _ A2 kk c2 vy rfl hvy'.out ((hry'.out.below hb9.out).more hb9.out.size) hoy.out (by unfold maxLen; omega) (by omega) hb9.out.size ?_)
         intro v10 w10 ho10 hg10 _
         have ho10' := Lib.hid ho10
         have hb10 : Hid (Below w7.heap.size w7 w10) := Lib.hid (hb9.out.trans ((Writes.of_grown hg10 (M := [v9.ownBlock]) (by simp)).below hb9.out.size (fun j hj => own_ge ho9'.out (List.mem_singleton.1 hj).symm)))
         clear ho10 hg10))
    obtain ⟨mab, hmab⟩ : ∃ k, k = N + kk := ⟨_, rfl⟩
    have ho11 : w10.ownsRow w7.heap.size 23 1 v10 mab (vx ++ vy) := by rw [hmab]; simpa using ho10'.out
    obtain ⟨A10, c10, e10, hsa10, hca10⟩ := slices_joined (x := all) (y := LB) ho11 hb10.out (hvx'.out.trans hN.out.1.symm) (hvy'.out.trans hLl.out.symm) hix'.out hiy'.out
    subst e10
    have hnl : Hid ((all ++ LB).length = mab ∧ mab ≤ 6 * (i + 1) ∧ mab ≤ c10) := Lib.hid ⟨by rw [List.length_append, hN.out.1, hLl.out, hmab], by have := hN.out; omega, hca10⟩
    have hB10 := Lib.hid (hB7.out.trans (hb10.out.mono hB7.out.size))
    have hL10 := Lib.hid (hL7.out.below hb10.out)
    have hsb10 := Lib.hid (hsb7.out.up hb10.out)
    have hsl10 := Lib.hid (hsl7.out.up hb10.out)
    have hsn10 := Lib.hid hsa10
    have c0 : w10.cell? ⟨b, off + i * 2, none⟩ = some (.int .i64 what) := (hB10.out.cell (p := ⟨b, off + i * 2, none⟩) (cell_lt hcw.out)).trans hcw.out
    have hkk2 : kk ≤ 6 * (i + 1) := by omega
    clear hmab ho11 ho9' ho10' hb9 hb10 hix' hiy' hrx' hry' hox hoy hvx' hvy' hsl7 hsb7 hB7 hL7 hsa10 hcw hca10
    go_upto_if 93 with (fail)
    go_cut [16, 17] (fun nv fv wc => ∃ (l' : LR) (q' : DR) (code : Nat) (next : List (List UInt8)) (An : Option Addr) (Nn cn : Nat), nv = .slice An Nn cn ∧ fv = .int .i64 (code : Nat) ∧ Hid (next.length = Nn ∧ Nn ≤ 6 * (i + 1) ∧ Nn ≤ cn) ∧ Hid (FallR W.heap.size k 256 gq l all next l' q' wc code) ∧ Hid (l'.g = l.g) ∧ Hid (Below W.heap.size W wc) ∧ Hid (Slices wc wc.heap.size Aa all) ∧ Hid (Slices wc wc.heap.size An next))
    case' first =>
      by_cases h4 : what = 4
      · subst h4
        have hrs := reset_law (by omega) (by omega) hL10.out.st (by have := hse.out; omega) A2 kk c2 LB hLl.out (by omega) hsb10.out
        go_wp2_with fail
        refine hrs.mono ?_
        clear hrs
        rintro e w11 ⟨l', q', code, rfl, hst, hput, _⟩
        have hFR := Lib.hid (FallR.of_put hput hL10.out hst hB10.out.size hLt.out)
        have hB11 := Lib.hid (hB10.out.trans (hst.hi hB10.out.size hL10.out.hi hL10.out.low).1)
        have hsl11 := Lib.hid (KeepS.lstep hst hL10.out.st.log hL10.out.st.disk _ _ hsl10.out)
        have hsb11 := Lib.hid (KeepS.lstep hst hL10.out.st.log hL10.out.st.disk _ _ hsb10.out)
        have hlg := Lib.hid hst.lg
        clear hst hput
        go_wp2_with fail
        go_meet
        case rel => exact ⟨l', q', code, LB, A2, kk, c2, rfl, rfl, Lib.hid ⟨hLl.out, hkk2, hc2⟩, hFR, hlg, hB11, hsl11, hsb11⟩
      · have hcm := commit_law (by omega) (by omega) hL10.out.st (by have := hse.out; omega) A2 kk c2 LB hLl.out (by omega) hsb10.out
        go_wp2_with fail
        refine hcm.mono ?_
        clear hcm
        rintro e w11 ⟨l', q', code, rfl, hst, hput, _⟩
        have hFR := Lib.hid (FallR.of_put hput hL10.out hst hB10.out.size hLt.out)
        have hB11 := Lib.hid (hB10.out.trans (hst.hi hB10.out.size hL10.out.hi hL10.out.low).1)
        have hsl11 := Lib.hid (KeepS.lstep hst hL10.out.st.log hL10.out.st.disk _ _ hsl10.out)
        have hsn11 := Lib.hid (KeepS.lstep hst hL10.out.st.log hL10.out.st.disk _ _ hsn10.out)
        have hlg := Lib.hid hst.lg
        clear hst hput
        go_wp2_with fail
        go_meet
        case rel => exact ⟨l', q', code, all ++ LB, A10, mab, c10, rfl, rfl, hnl, hFR, hlg, hB11, hsl11, hsn11⟩
    obtain ⟨l', q', code, next, An, Nn, cn, rfl, rfl, hnn, hFR, hlg, hB11, hsl11, hsn11⟩ := hcut
    rename World => w11
    clear hL10 hB10 hsl10 hsb10 hsn10 c0
    have hFR' := hFR.out
    rcases hFR' with ⟨hcd, hLf, hser⟩ | hcd | ⟨hcd, hdd, hdk, hhi, hgq, hqn, hqs, hcr⟩
    · subst hcd
      have hLf' := Lib.hid hLf
      have hser' : Hid (l'.serial ≤ 2 * (i + 1)) := Lib.hid (by have := hse.out; omega)
      clear hLf hser hFR
      go_wp2_with fail
      refine ⟨⟨i + 1, l', q', next, An, Nn, cn, by omega, by simp, by rw [hlg.out], rfl, hLf', hnn, hser', hB11, hsn11⟩, by simp [intOf]; omega⟩
    · subst hcd
      clear hFR
      go_wp2_with fail
      go_ret
      exact ⟨rfl, hB11.out⟩
    · subst hcd
      have hdk' := Lib.hid hdk
      have hhi' := Lib.hid hhi
      have hgq' := Lib.hid hgq
      have hqn' := Lib.hid hqn
      have hqs' := Lib.hid hqs
      have hcr' := Lib.hid hcr
      have hda := dead_any w11 q' hdk'.out
      rw [hdd, hgq'.out] at hda
      clear hFR hdd hdk hhi hgq hqn hqs hcr
      go_wp2_with fail
      refine hda.mono ?_
      clear hda
      rintro e w12 ⟨rfl, e12⟩
      rw [e12]
      clear e12 w12
      go_upto_if 104 with (fail)
      go_cut [18] (fun kv wc => ∃ kp : Nat, kv = .int .u64 kp ∧ Hid (kp < 18446744073709551616) ∧ Hid (wc = w11))
      case' first =>
        by_cases hik : i < mk
        · have hikl : i < lk.length := by rw [hlk'.out]; exact hik
          obtain ⟨bk, ok, rfl, _, hck⟩ := (hbk'.out.below hB11.out).at_ (k := i) (by simpa using hikl)
          rw [List.getElem_map] at hck
          have hkb := huk'.out lk[i] (List.getElem_mem hikl)
          obtain ⟨kp, hkp⟩ : ∃ x, x = lk[i] := ⟨_, rfl⟩
          rw [← hkp] at hck hkb
          unfold u64V at hck
          clear hkp
          have hiki : (i : Int) < (mk : Int) := by omega
          go_wp2_with fail
          go_meet
          case rel => exact ⟨kp, rfl, Lib.hid hkb, Lib.hid rfl⟩
        · have hiki : ¬ (i : Int) < (mk : Int) := by omega
          go_wp2_with fail
          go_meet
          case rel => exact ⟨0, rfl, Lib.hid (by omega), Lib.hid rfl⟩
      obtain ⟨kp, rfl, hkp, hw⟩ := hcut
      have hw' := hw.out
      rename World => w12
      have hdk12 : Hid (DiskP q' w12) := Lib.hid (by rw [hw']; exact hdk'.out)
      have hB12 : Hid (Below W.heap.size W w12) := Lib.hid (by rw [hw']; exact hB11.out)
      have hsl12 : Hid (Slices w12 w12.heap.size Aa all) := Lib.hid (by rw [hw']; exact hsl11.out)
      have hsn12 : Hid (Slices w12 w12.heap.size An next) := Lib.hid (by rw [hw']; exact hsn11.out)
      clear hw hw' hdk' hB11 hsl11 hsn11
      have hcl := crash_law hdk12.out kp hkp.out
      rw [hgq'.out] at hcl
      go_wp2_with fail
      refine hcl.mono ?_
      clear hcl
      rintro e w13 ⟨rfl, q13, hst13, hcd13⟩
      obtain ⟨hb13, hF13⟩ := hst13.hi hB12.out.size hhi'.out
      have hB13 := Lib.hid (hB12.out.trans hb13)
      have hsl13 := Lib.hid (KeepS.dstep hst13 hdk12.out _ _ hsl12.out)
      have hsn13 := Lib.hid (KeepS.dstep hst13 hdk12.out _ _ hsn12.out)
      have hF13' := Lib.hid hF13
      have hd13 := Lib.hid hst13.post
      have hg13 : Hid (q13.g = gq) := Lib.hid (hst13.g.trans hgq'.out)
      obtain ⟨h', slot', all', hgood, hser, hall⟩ := hcr'.out q13 hcd13
      have hop := open_live (n := k) (s := 256) (by omega) (by omega) w13 q13 hst13.post hcd13.dead hcd13.cut (hcd13.n.trans hqn'.out) (hcd13.size.trans hqs'.out) hgood
      rw [hg13.out] at hop
      have hser' := Lib.hid hser
      have hall' := Lib.hid hall
      clear hst13 hcd13 hgood hser hall hb13 hF13 hB12 hsl12 hsn12 hdk12 hhi' hgq' hqn' hqs' hcr'
      go_wp2_with fail
      refine hop.mono ?_
      clear hop
      rintro e w14 ⟨q14, l14, A14, c14, rfl, hst14, hge14, hS14, hh14, _, hsr14, hlr14, _⟩
      obtain ⟨hb14, hF14⟩ := hst14.hi hB13.out.size hF13'.out
      have hB14 := Lib.hid (hB13.out.trans hb14)
      have hsl14 := Lib.hid (KeepS.dstep hst14 hd13.out _ _ hsl13.out)
      have hsn14 := Lib.hid (KeepS.dstep hst14 hd13.out _ _ hsn13.out)
      have hL14 : Hid (Lf W.heap.size k 256 gq l14 q14 w14 all') := Lib.hid ⟨hS14, hF14, hst14.g.trans hg13.out, Nat.le_trans hB13.out.size hge14⟩
      have hser14 : Hid (l14.serial ≤ 2 * (i + 1)) := Lib.hid (by
        have h1 : l14.serial = h'.serial := congrArg Hdr.serial hh14
        have := hser'.out
        have := hse.out
        omega)
      have hsr14' := Lib.hid hsr14
      obtain ⟨Na, hNa⟩ : ∃ x, x = all'.length := ⟨_, rfl⟩
      have hNl : Na ≤ 6 * (i + 1) := by
        rw [hNa]
        have h1 := hN.out
        have h2 := hnn.out
        rcases hall'.out with h | h <;> rw [h] <;> omega
      rw [← hNa]
      have hNa' := Lib.hid hNa
      have hsm1 := same_any w14 A14 Aa Na N c14 ca all' all hNa.symm hN.out.1 (by omega) (by have := hN.out; omega) hsr14 hsl14.out
      clear hst14 hge14 hS14 hh14 hsr14 hb14 hF14 hB13 hsl13 hsn13 hF13' hd13 hg13 hser' hNa
      by_cases haa : all' = all
      · have hL15 : Hid (Lf W.heap.size k 256 gq l14 q14 w14 all) := Lib.hid (by rw [← haa]; exact hL14.out)
        rw [decide_eq_true haa] at hsm1
        clear haa hL14
        go_wp2_with fail
        refine hsm1.mono ?_
        clear hsm1
        rintro e w15 ⟨rfl, hb15⟩
        have hL16 := Lib.hid (hL15.out.below hb15)
        have hB16 := Lib.hid (hB14.out.trans (hb15.mono hB14.out.size))
        have hsl16 := Lib.hid (hsl14.out.up hb15)
        clear hb15
        go_wp2_with fail
        refine ⟨⟨i + 1, l14, q14, all, Aa, N, ca, by omega, by simp, rfl, rfl, hL16, Lib.hid (by have := hN.out; omega), hser14, hB16, hsl16⟩, by simp [intOf]; omega⟩
      · have hnx : all' = next := by
          rcases hall'.out with h | h
          · exact h
          · exact absurd h haa
        have hL15 : Hid (Lf W.heap.size k 256 gq l14 q14 w14 next) := Lib.hid (by rw [← hnx]; exact hL14.out)
        rw [decide_eq_false haa] at hsm1
        have hnx' := Lib.hid hnx
        clear haa hL14 hnx
        go_wp2_with fail
        refine hsm1.mono ?_
        clear hsm1
        rintro e w15 ⟨rfl, hb15⟩
        have hL16 := Lib.hid (hL15.out.below hb15)
        have hB16 := Lib.hid (hB14.out.trans (hb15.mono hB14.out.size))
        have hsn16 := Lib.hid (hsn14.out.up hb15)
        have hsm2 := same_any w15 A14 An Na Nn c14 cn all' next hNa'.out.symm hnn.out.1 (by omega) (by have := hnn.out; omega) (hsr14'.out.up hb15) hsn16.out
        rw [decide_eq_true hnx'.out] at hsm2
        clear hb15
        go_wp2_with fail
        refine hsm2.mono ?_
        clear hsm2
        rintro e w16 ⟨rfl, hb16⟩
        have hL17 := Lib.hid (hL16.out.below hb16)
        have hB17 := Lib.hid (hB16.out.trans (hb16.mono hB16.out.size))
        have hsn17 := Lib.hid (hsn16.out.up hb16)
        clear hb16
        go_wp2_with fail
        refine ⟨⟨i + 1, l14, q14, next, An, Nn, cn, by omega, by simp, rfl, rfl, hL17, hnn, hser14, hB17, hsn17⟩, by simp [intOf]; omega⟩
  · obtain rfl : i = m := by omega
    have hii : ¬ (i : Int) < (i : Int) := by omega
    have hcl := crash_law hL.out.st.disk 0 (by omega)
    rw [hL.out.eq] at hcl
    have hcl : Calls Try.prog 31 #[.pointer (some ⟨gq, 0, none⟩), .int .u64 0, .int .i64 (-1), .int .i64 0] wr _ := hcl
    go_wp2_with fail
    refine hcl.mono ?_
    clear hcl
    rintro e w6 ⟨rfl, q6, hst6, hcd6⟩
    obtain ⟨hb6, hF6⟩ := hst6.hi hB.out.size hL.out.hi
    have hB6 := Lib.hid (hB.out.trans hb6)
    have hsl6 := Lib.hid (KeepS.dstep hst6 hL.out.st.disk _ _ hsl.out)
    have hlast : q6.abs.last = q.abs.last := settled_mix hL.out.st.wr hcd6.mix
    have hg6 : q6.g = gq := hst6.g.trans hL.out.eq
    have hop := open_live (n := k) (s := 256) (by omega) (by omega) w6 q6 hst6.post hcd6.dead hcd6.cut (hcd6.n.trans hL.out.st.hn) (hcd6.size.trans hL.out.st.hsz) (by rw [hlast]; exact hL.out.st.good)
    rw [hg6, hN.out.1] at hop
    have hF6' := Lib.hid hF6
    have hd6 := Lib.hid hst6.post
    clear hst6 hcd6 hb6 hF6 hlast hg6 hL hB hsl
    go_wp2_with fail
    refine hop.mono ?_
    clear hop
    rintro e w8 ⟨q8, l8, A8, c8, rfl, hst8, _, _, _, _, hs8, hc8, _⟩
    have hB8 := Lib.hid (hB6.out.trans (hst8.hi hB6.out.size hF6'.out).1)
    have hsm := same_any w8 A8 Aa N N c8 ca all all hN.out.1 hN.out.1 (by have := hN.out; omega) (by have := hN.out; omega) hs8 (KeepS.dstep hst8 hd6.out _ _ hsl6.out)
    rw [decide_eq_true (rfl : all = all)] at hsm
    clear hst8 hs8 hc8
    go_wp2_with fail
    refine hsm.mono ?_
    clear hsm
    rintro e w9 ⟨rfl, hb9⟩
    have hfin : Hid (Below W.heap.size W w9) := Lib.hid (hB8.out.trans (hb9.mono hB8.out.size))
    clear hb9
    go_wp2_with fail
    go_ret
    exact ⟨rfl, hfin.out⟩
end Go.Proofs.Ytncddkbagmelkaa
