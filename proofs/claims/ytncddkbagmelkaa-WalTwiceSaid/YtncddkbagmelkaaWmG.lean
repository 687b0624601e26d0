/-
  The walk of the statement WalTwice.
-/
import Derived.Test.YtncddkbagmelkaaWh
import Derived.Test.YtncddkbagmelkaaWi
namespace Go.Proofs.Ytncddkbagmelkaa
open Go.RowKit Go.Deep

set_option maxRecDepth 100000 in
set_option maxHeartbeats 8000000 in
theorem twice_walk (W : World) (v0 v1 v2 v3 v4 v5 : Value) (o0 : ArgOk 23 W v0) (o1 : ArgOk 23 W v1) (o2 : ArgOk 5 W v2) (o3 : ArgOk 5 W v3) (o4 : ArgOk 60 W v4) (o5 : ArgOk 60 W v5) :
    Calls Try.prog 9 #[v0, v1, v2, v3, v4, v5] W fun e w' => e = .returned (.bool true) ∧ Below W.heap.size W w' := by
  obtain ⟨iS, hiS, hzS0, hzS1, hzS2⟩ := info_parts Try.rSl
  obtain ⟨A, ma, ca, la, rfl, hla, hmc, hcm, hba⟩ := o0.bytes
  obtain ⟨B, mb, cb, lb, rfl, hlb, hmc2, hcm2, hbb⟩ := o1.bytes
  obtain ⟨cut, rfl, hcut⟩ := o2.u8
  obtain ⟨again, rfl, hag⟩ := o3.u8
  obtain ⟨keep, rfl, hkeep⟩ := o4.u64
  obtain ⟨more, rfl, hmore⟩ := o5.u64
  clear o0 o1 o2 o3 o4 o5
  have hkn := known_any W
  have hba' := Lib.hid hba
  have hbb' := Lib.hid hbb
  have hla' := Lib.hid hla
  have hlb' := Lib.hid hlb
  clear hba hbb hla hlb hmc hmc2 hcm hcm2
  go_enter Try.func9, Try.ntmps9
  go_wp2_with fail
  refine hkn.mono ?_
  clear hkn
  rintro e w1 ⟨rfl, hb1⟩
  have hB1 := Lib.hid hb1
  clear hb1
  by_cases hm6 : 6 < ma
  · have hmi : (6 : Int) < (ma : Int) := by omega
    go_wp2_with fail
    go_ret
    exact ⟨rfl, hB1.out⟩
  have hmi : ¬ (6 : Int) < (ma : Int) := by omega
  by_cases hm7 : 6 < mb
  · have hmj : (6 : Int) < (mb : Int) := by omega
    go_wp2_with fail
    go_ret
    exact ⟨rfl, hB1.out⟩
  have hmj : ¬ (6 : Int) < (mb : Int) := by omega
  have hnd : Calls Try.prog 12 #[.int .i64 120, .int .i64 256] w1 _ := newd_any w1 120 256 (by omega) (by omega) (by omega) (by omega)
  go_wp2_with fail
  refine hnd.mono ?_
  clear hnd
  rintro e w2 ⟨q0, rfl, hN, hge, hb2, hF⟩
  have hB2 := Lib.hid (hB1.out.trans (hb2.mono hB1.out.size))
  have hop := open_new (B := W.heap.size) (by omega) (by omega) hN (fun x hx => Nat.le_trans hB1.out.size (hF x hx)) hB2.out.size
  clear hN hge hb2 hF
  go_wp2_with fail
  refine hop.mono ?_
  clear hop
  rintro e w3 ⟨q1, l1, c1, A1, rfl, hL, hs0, hu0, hb3, _⟩
  have hB3 := Lib.hid (hB2.out.trans hb3)
  obtain ⟨gl, hgl⟩ : ∃ g, g = l1.g := ⟨_, rfl⟩
  obtain ⟨gq, hgq⟩ : ∃ g, g = q0.g := ⟨_, rfl⟩
  rw [← hgl, ← hgq] at hL ⊢
  have hL3 := Lib.hid hL
  have hsu : Hid (l1.serial = 0 ∧ l1.used = 0) := Lib.hid ⟨hs0, hu0⟩
  clear hb3 hgl hgq hL hs0 hu0
  have hbt : Calls Try.prog 15 #[.int .i64 1, .slice A ma ca] w3 _ := batch_sl w3 1 (by omega) A ma ca la hla'.out (by omega) ((hba'.out.below hB3.out).more hB3.out.size)
  go_wp2_with fail
  refine hbt.mono ?_
  clear hbt
  rintro e w4 ⟨A2, c2, rfl, hsl, hc2, hb4⟩
  have hB4 := Lib.hid (hB3.out.trans (hb4.mono hB3.out.size))
  have hL4 := Lib.hid (hL3.out.below hb4)
  have hsl4 := Lib.hid hsl
  obtain ⟨X, hX⟩ : ∃ L, L = batchF 1 la := ⟨_, rfl⟩
  rw [← hX] at hsl4 hsl
  have hXl : Hid (X.length = ma) := Lib.hid (by rw [hX, batchF_length, hla'.out])
  have hXt : Hid (tooLong X = false) := Lib.hid (by rw [hX]; exact batchF_notlong _ _)
  have hXf : Hid ((framesF X).length ≤ 1578) := Lib.hid (by have := batchF_bound 1 la; rw [← hX, hla'.out] at this; omega)
  clear hsl hb4 hL3 hX
  have hbt : Calls Try.prog 15 #[.int .i64 2, .slice B mb cb] w4 _ := batch_sl w4 2 (by omega) B mb cb lb hlb'.out (by omega) ((hbb'.out.below hB4.out).more hB4.out.size)
  go_wp2_with fail
  refine hbt.mono ?_
  clear hbt
  rintro e w5 ⟨A3, c3, rfl, hsl, hc3, hb5⟩
  have hB5 := Lib.hid (hB4.out.trans (hb5.mono hB4.out.size))
  have hL5 := Lib.hid (hL4.out.below hb5)
  have hsx5 := Lib.hid (hsl4.out.up hb5)
  have hsy5 := Lib.hid hsl
  obtain ⟨Y, hY⟩ : ∃ L, L = batchF 2 lb := ⟨_, rfl⟩
  rw [← hY] at hsy5 hsl
  have hYl : Hid (Y.length = mb) := Lib.hid (by rw [hY, batchF_length, hlb'.out])
  have hYt : Hid (tooLong Y = false) := Lib.hid (by rw [hY]; exact batchF_notlong _ _)
  have hYf : Hid ((framesF Y).length ≤ 1578) := Lib.hid (by have := batchF_bound 2 lb; rw [← hY, hlb'.out] at this; omega)
  clear hsl hb5 hL4 hsl4 hY
  have hcm := commit_done (by omega) (by omega) hL5.out hB5.out.size (by have := hsu.out; omega) A2 ma c2 X hXl.out (by omega) hsx5.out hXt.out (by have := hXf.out; have := hsu.out; have : half 120 = 59 := rfl; omega)
  rw [List.nil_append] at hcm
  go_wp2_with fail
  refine hcm.mono ?_
  clear hcm
  rintro e w6 ⟨l6, q6, rfl, hD6, hu6, _⟩
  have hL6 := Lib.hid hD6.lg
  have hB6 := Lib.hid (hB5.out.trans hD6.bel)
  have hsx6 := Lib.hid (hD6.keep _ _ hsx5.out)
  have hsy6 := Lib.hid (hD6.keep _ _ hsy5.out)
  have hsu6 : Hid (l6.serial ≤ 2 ∧ l6.used ≤ 1578) := Lib.hid (by have := hD6.ser; have := hsu.out; have := hXf.out; omega)
  clear hD6 hL5 hB5 hsx5 hsy5 hu6 hsu
  -- the power fails some calls later
  have hKl : 0 ≤ (cut : Int) % 12 ∧ (cut : Int) % 12 ≤ 1000000 := by omega
  have hKl2 : 0 ≤ (again : Int) % 6 ∧ (again : Int) % 6 ≤ 1000000 := by omega
  have hct := cut_law hL6.out.st.disk ((cut : Int) % 12) hKl
  rw [hL6.out.eq] at hct
  go_wp2_with fail
  refine hct.mono ?_
  clear hct
  rintro e w7 ⟨rfl, q7, hst7, e1, e2, e3, e4, e5⟩
  have hS7 := Lib.hid (hL6.out.st.cut hst7 e1 e2 e3 e4 e5)
  obtain ⟨hb7, hF7⟩ := hst7.hi hB6.out.size hL6.out.hi
  have hB7 := Lib.hid (hB6.out.trans hb7)
  have hF7' := Lib.hid hF7
  have hsx7 := Lib.hid (KeepS.dstep hst7 hL6.out.st.disk _ _ hsx6.out)
  have hsy7 := Lib.hid (KeepS.dstep hst7 hL6.out.st.disk _ _ hsy6.out)
  have hg7 : Hid (q7.g = gq ∧ l6.g = gl ∧ W.heap.size ≤ gl) := Lib.hid ⟨hst7.g.trans hL6.out.eq, hL6.out.el, hL6.out.low⟩
  clear hst7 e1 e2 e3 e4 e5 hb7 hF7 hL6 hB6 hsx6 hsy6
  have hcm := commit_law (by omega) (by omega) hS7.out (by have := hsu6.out; omega) A3 mb c3 Y hYl.out (by omega) hsy7.out
  rw [hg7.out.2.1] at hcm
  go_wp2_with fail
  refine hcm.mono ?_
  clear hcm
  rintro e w8 ⟨l8, q8, code, rfl, hst8, hput, _⟩
  obtain ⟨hb8, hF8, _⟩ := hst8.hi hB7.out.size hF7'.out (by rw [hg7.out.2.1]; exact hg7.out.2.2)
  have hB8 := Lib.hid (hB7.out.trans hb8)
  have hF8' := Lib.hid hF8
  have hsx8 := Lib.hid (KeepS.lstep hst8 hS7.out.log hS7.out.disk _ _ hsx7.out)
  have hsy8 := Lib.hid (KeepS.lstep hst8 hS7.out.log hS7.out.disk _ _ hsy7.out)
  have hd8 := Lib.hid hst8.post
  have hput' := Lib.hid hput
  have hg8 : Hid (q8.g = gq) := Lib.hid (hst8.g.trans hg7.out.1)
  have hns8 : Hid (q8.n = 120 ∧ q8.size = 256) := Lib.hid ⟨hput.same.1.trans hS7.out.hn, hput.same.2.trans hS7.out.hsz⟩
  have hcr := crash_law hst8.post keep hkeep
  rw [hg8.out] at hcr
  clear hst8 hput hb8 hF8 hB7 hF7' hsx7 hsy7
  go_wp2_with fail
  refine hcr.mono ?_
  clear hcr
  rintro e w9 ⟨rfl, q9, hst9, hcd9⟩
  obtain ⟨hb9, hF9⟩ := hst9.hi hB8.out.size hF8'.out
  have hB9 := Lib.hid (hB8.out.trans hb9)
  have hF9' := Lib.hid hF9
  have hsx9 := Lib.hid (KeepS.dstep hst9 hd8.out _ _ hsx8.out)
  have hsy9 := Lib.hid (KeepS.dstep hst9 hd8.out _ _ hsy8.out)
  have hd9 := Lib.hid hst9.post
  have hg9 : Hid (q9.g = gq) := Lib.hid (hst9.g.trans hg8.out)
  have hns9 : Hid (q9.n = 120 ∧ q9.size = 256) := Lib.hid ⟨hcd9.n.trans hns8.out.1, hcd9.size.trans hns8.out.2⟩
  have hq9 : Hid (q9.dead = false ∧ q9.abs.wr = fun _ => none) := Lib.hid ⟨hcd9.dead, hcd9.wr⟩
  obtain ⟨h', slot', all', hgood, _, hall⟩ := hput'.out.crashed hS7.out hcd9
  have hgood' := Lib.hid hgood
  have hall' := Lib.hid hall
  have hct := cut_law hst9.post ((again : Int) % 6) hKl2
  rw [hg9.out] at hct
  clear hst9 hcd9 hgood hall hput' hS7 hb9 hF9 hB8 hF8' hsx8 hsy8 hd8 hg8 hns8
  go_wp2_with fail
  refine hct.mono ?_
  clear hct
  rintro e w10 ⟨rfl, q10, hst10, e1, e2, e3, e4, e5⟩
  obtain ⟨hb10, hF10⟩ := hst10.hi hB9.out.size hF9'.out
  have hB10 := Lib.hid (hB9.out.trans hb10)
  have hF10' := Lib.hid hF10
  have hsx10 := Lib.hid (KeepS.dstep hst10 hd9.out _ _ hsx9.out)
  have hsy10 := Lib.hid (KeepS.dstep hst10 hd9.out _ _ hsy9.out)
  have hd10 := Lib.hid hst10.post
  have hg10 : Hid (q10.g = gq) := Lib.hid (hst10.g.trans hg9.out)
  have hns10 : Hid (q10.n = 120 ∧ q10.size = 256) := Lib.hid ⟨e4.trans hns9.out.1, e5.trans hns9.out.2⟩
  have hq10 : Hid (q10.dead = false ∧ q10.abs.wr = (fun _ => none) ∧ q10.abs.last = q9.abs.last) := Lib.hid ⟨e3.trans hq9.out.1, e2.trans hq9.out.2, e1⟩
  have hop := open_still (by rw [hns10.out.1]; omega) (by rw [hns10.out.2]; omega) hst10.post hq10.out.1 hq10.out.2.1
  rw [hg10.out] at hop
  clear hst10 e1 e2 e3 e4 e5 hb10 hF10 hB9 hF9' hsx9 hsy9 hd9 hg9 hns9 hq9
  go_wp2_with fail
  refine hop.mono ?_
  clear hop
  rintro e w11 ⟨⟨vo, rfl⟩, q11, hst11, e1, e2, e4, e5⟩
  obtain ⟨hb11, hF11⟩ := hst11.hi hB10.out.size hF10'.out
  have hB11 := Lib.hid (hB10.out.trans hb11)
  have hF11' := Lib.hid hF11
  have hsx11 := Lib.hid (KeepS.dstep hst11 hd10.out _ _ hsx10.out)
  have hsy11 := Lib.hid (KeepS.dstep hst11 hd10.out _ _ hsy10.out)
  have hd11 := Lib.hid hst11.post
  have hg11 : Hid (q11.g = gq) := Lib.hid (hst11.g.trans hg10.out)
  have hns11 : Hid (q11.n = 120 ∧ q11.size = 256) := Lib.hid ⟨e4.trans hns10.out.1, e5.trans hns10.out.2⟩
  have hq11 : Hid (q11.abs.wr = (fun _ => none) ∧ q11.abs.last = q9.abs.last) := Lib.hid ⟨e2, e1.trans hq10.out.2.2⟩
  have hcr := crash_law hst11.post more hmore
  rw [hg11.out] at hcr
  clear hst11 e1 e2 e4 e5 hb11 hF11 hB10 hF10' hsx10 hsy10 hd10 hg10 hns10 hq10
  go_wp2_with fail
  refine hcr.mono ?_
  clear hcr
  rintro e w12 ⟨rfl, q12, hst12, hcd12⟩
  obtain ⟨hb12, hF12⟩ := hst12.hi hB11.out.size hF11'.out
  have hB12 := Lib.hid (hB11.out.trans hb12)
  have hsx12 := Lib.hid (KeepS.dstep hst12 hd11.out _ _ hsx11.out)
  have hsy12 := Lib.hid (KeepS.dstep hst12 hd11.out _ _ hsy11.out)
  have hg12 : q12.g = gq := hst12.g.trans hg11.out
  have hlast12 : q12.abs.last = q9.abs.last := (settled_mix hq11.out.1 hcd12.mix).trans hq11.out.2
  have hop := open_live (n := 120) (s := 256) (by omega) (by omega) w12 q12 hst12.post hcd12.dead hcd12.cut (hcd12.n.trans hns11.out.1) (hcd12.size.trans hns11.out.2) (by rw [hlast12]; exact hgood'.out)
  rw [hg12] at hop
  have hd12 := Lib.hid hst12.post
  have hF12' := Lib.hid hF12
  clear hst12 hcd12 hb12 hF12 hB11 hF11' hsx11 hsy11 hd11 hg11 hns11 hlast12 hq11 hgood'
  go_wp2_with fail
  refine hop.mono ?_
  clear hop
  rintro e w13 ⟨q13, l13, A13, c13, rfl, hst13, _, _, _, _, hsr13, hlr13, _⟩
  obtain ⟨hb13, _⟩ := hst13.hi hB12.out.size hF12'.out
  have hB13 := Lib.hid (hB12.out.trans hb13)
  have hsx13 := Lib.hid (KeepS.dstep hst13 hd12.out _ _ hsx12.out)
  have hsy13 := Lib.hid (KeepS.dstep hst13 hd12.out _ _ hsy12.out)
  have hsr13' := Lib.hid hsr13
  clear hst13 hb13 hB12 hsx12 hsy12 hsr13 hd12 hF12' hg12
  obtain ⟨vx, hvx, hrx, hix⟩ := hsx13.out
  obtain ⟨vy, hvy, hry, hiy⟩ := hsy13.out
  have hrx' := Lib.hid hrx
  have hry' := Lib.hid hry
  have hix' := Lib.hid hix
  have hiy' := Lib.hid hiy
  have hvx' : Hid (vx.length = ma) := Lib.hid (hvx.trans hXl.out)
  have hvy' : Hid (vy.length = mb) := Lib.hid (hvy.trans hYl.out)
  have hox : Hid (∀ u ∈ vx, u.oneCell' = true) := Lib.hid (vals_one hvx hix)
  have hoy : Hid (∀ u ∈ vy, u.oneCell' = true) := Lib.hid (vals_one hvy hiy)
  clear hvx hvy hrx hry hix hiy
  go_upto_region 20 with (first
    | (with_reducible refine at_slot 81 ?_
       go_loud (refine wpList_append_row _ rfl _ (.tmp 80) 28 rfl w13.heap.size 23 iS (.slice none 0 0) 24 Try.underlying28 hiS hzS0 hzS1 hzS2 rfl (.slice none 0 0) 0 [] rfl (World.ownsRow_nil _ _ _ _) _ A2 ma c2 vx rfl hvx'.out hrx'.out hox.out (by unfold maxLen; omega) (by omega) (Nat.le_refl _) ?_)
       intro v14 w14 ho14 hg14 _
       have ho14' := Lib.hid ho14
       have hb14 : Hid (Below w13.heap.size w13 w14) := Lib.hid (grown_none hg14)
       clear ho14 hg14)
    | (with_reducible refine at_slot 83 ?_
       go_loud (refine wpList_append_row _ rfl (.tmp 81) (.tmp 82) 28 rfl w13.heap.size 23 iS (.slice none 0 0) 24 Try.underlying28 hiS hzS0 hzS1 hzS2 rfl v14 (0 + ma) ([] ++ vx) rfl ho14'.out _ A3 mb c3 vy rfl hvy'.out ((hry'.out.below hb14.out).more hb14.out.size) hoy.out (by unfold maxLen; omega) (by omega) hb14.out.size ?_)
       intro v15 w15 ho15 hg15 _
       have ho15' := Lib.hid ho15
       have hb15 : Hid (Below w13.heap.size w13 w15) := Lib.hid (hb14.out.trans ((Writes.of_grown hg15 (M := [v14.ownBlock]) (by simp)).below hb14.out.size (fun j hj => own_ge ho14'.out (List.mem_singleton.1 hj).symm)))
       clear ho15 hg15))
  obtain ⟨mab, hmab⟩ : ∃ k, k = ma + mb := ⟨_, rfl⟩
  have ho16 : w15.ownsRow w13.heap.size 23 1 v15 mab (vx ++ vy) := by rw [hmab]; simpa using ho15'.out
  obtain ⟨A15, c15, e15, hsb15, hcb15⟩ := slices_joined (x := X) (y := Y) ho16 hb15.out (hvx'.out.trans hXl.out.symm) (hvy'.out.trans hYl.out.symm) hix'.out hiy'.out
  subst e15
  have hB15 := Lib.hid (hB13.out.trans (hb15.out.mono hB13.out.size))
  have hsx15 := Lib.hid (hsx13.out.up hb15.out)
  have hsr15 := Lib.hid (hsr13'.out.up hb15.out)
  have hsb15' := Lib.hid hsb15
  have hbl : Hid ((X ++ Y).length = mab) := Lib.hid (by rw [List.length_append, hXl.out, hYl.out, hmab])
  have hal : all'.length ≤ 12 := by
    rcases hall'.out with ⟨h, _⟩ | ⟨h, _⟩
    · rw [h, hbl.out]; omega
    · rw [h, hXl.out]; omega
  have hml : mab ≤ 12 := by omega
  clear hmab ho16 ho15' ho14' hb14 hb15 hix' hiy' hrx' hry' hox hoy hvx' hvy' hsx13 hsr13' hsy13 hsb15 hB13
  have hsm1 := same_any w15 A13 A15 all'.length mab c13 c15 all' (X ++ Y) rfl hbl.out (by omega) (by omega) hsr15.out hsb15'.out
  have hsm2 := same_any w15 A13 A2 all'.length ma c13 c2 all' X rfl hXl.out (by omega) (by omega) hsr15.out hsx15.out
  by_cases hc0 : code = 0
  · subst hc0
    have hd : decide (all' = X ++ Y) = true := by
      rcases hall'.out with ⟨h, _⟩ | ⟨_, h⟩
      · simp [h]
      · exact absurd rfl h
    rw [hd] at hsm1
    clear hd hsm2
    go_wp2_with fail
    refine hsm1.mono ?_
    clear hsm1
    rintro e w16 ⟨rfl, hb16⟩
    have hfin : Hid (Below W.heap.size W w16) := Lib.hid (hB15.out.trans (hb16.mono hB15.out.size))
    clear hb16
    go_wp2_with fail
    go_ret
    exact ⟨rfl, hfin.out⟩
  · have hz1 : ((code : Int) == 0) = false := by simp; omega
    have hz2 : ¬ (code : Int) = 0 := by omega
    by_cases hax : all' = X
    · have hd : decide (all' = X) = true := decide_eq_true hax
      rw [hd] at hsm2
      clear hd hsm1 hax
      go_wp2_with fail
      refine hsm2.mono ?_
      clear hsm2
      rintro e w16 ⟨rfl, hb16⟩
      have hfin : Hid (Below W.heap.size W w16) := Lib.hid (hB15.out.trans (hb16.mono hB15.out.size))
      clear hb16
      go_wp2_with fail
      go_ret
      exact ⟨rfl, hfin.out⟩
    · have hd : decide (all' = X) = false := decide_eq_false hax
      rw [hd] at hsm2
      have hbo : Hid (all' = X ++ Y) := Lib.hid (by
        rcases hall'.out with ⟨h, _⟩ | ⟨h, _⟩
        · exact h
        · exact absurd h hax)
      clear hd hsm1 hax
      go_wp2_with fail
      refine hsm2.mono ?_
      clear hsm2
      rintro e w16 ⟨rfl, hb16⟩
      have hB16 := Lib.hid (hB15.out.trans (hb16.mono hB15.out.size))
      have hsm1 := same_any w16 A13 A15 all'.length mab c13 c15 all' (X ++ Y) rfl hbl.out (by omega) (by omega) (hsr15.out.up hb16) (hsb15'.out.up hb16)
      have hd : decide (all' = X ++ Y) = true := decide_eq_true hbo.out
      rw [hd] at hsm1
      clear hd hb16
      go_wp2_with fail
      refine hsm1.mono ?_
      clear hsm1
      rintro e w17 ⟨rfl, hb17⟩
      have hfin : Hid (Below W.heap.size W w17) := Lib.hid (hB16.out.trans (hb17.mono hB16.out.size))
      clear hb17
      go_wp2_with fail
      go_ret
      exact ⟨rfl, hfin.out⟩
end Go.Proofs.Ytncddkbagmelkaa
