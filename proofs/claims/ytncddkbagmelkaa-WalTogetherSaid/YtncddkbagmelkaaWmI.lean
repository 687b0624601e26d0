/-
  The walk of the statement WalTogether.
-/
import Derived.Test.YtncddkbagmelkaaWi
namespace Go.Proofs.Ytncddkbagmelkaa
open Go.RowKit Go.Deep

section
variable {B n s : Nat} {gla gqa glb gqb : Nat} {la lb la' : LR} {qa qb qa' : DR} {alla allb next : List (List UInt8)} {w w' : World}
/-- Two logs, side by side. -/
structure Pair (B n s gla gqa glb gqb : Nat) (la : LR) (qa : DR) (alla : List (List UInt8)) (lb : LR) (qb : DR) (allb : List (List UInt8)) (w : World) : Prop where
  a : Lg B n s gla gqa la qa w alla
  b : Lg B n s glb gqb lb qb w allb
  off : ∀ x, FL la qa x → ¬ FL lb qb x
theorem Pair.symm (h : Pair B n s gla gqa glb gqb la qa alla lb qb allb w) : Pair B n s glb gqb gla gqa lb qb allb la qa alla w := ⟨h.b, h.a, fun x h1 h2 => h.off x h2 h1⟩
theorem Pair.below (h : Pair B n s gla gqa glb gqb la qa alla lb qb allb w) (hb : Below w.heap.size w w') : Pair B n s gla gqa glb gqb la qa alla lb qb allb w' := ⟨h.a.below hb, h.b.below hb, h.off⟩
/-- The first log turns. -/
theorem Pair.step (h : Pair B n s gla gqa glb gqb la qa alla lb qb allb w) (hB : B ≤ w.heap.size) (hst : LStep la qa w la' qa' w') (hS : LogS n s la' qa' w' next) (hc : qa'.cut = false) : Pair B n s gla gqa glb gqb la' qa' next lb qb allb w' ∧ Below B w w' ∧ KeepS w w' := by
  obtain ⟨b1, b2, b3⟩ := hst.hi hB h.a.hi (by rw [h.a.el]; exact h.a.low)
  refine ⟨⟨⟨hS, b2, hst.lg.trans h.a.el, hst.g.trans h.a.eq, h.a.low, hc⟩, ⟨h.b.st.aside fun x hx hf => hst.touch hx (fun e => h.off x e hf), h.b.hi, h.b.el, h.b.eq, h.b.low, h.b.cut⟩, fun x h1 h2 => ?_⟩, b1, .lstep hst h.a.st.log h.a.st.disk⟩
  rcases hst.fl x h1 with e | e
  · exact h.off x e h2
  · have := h.b.st.lt x h2
    omega
/-- A commit on the first log. -/
theorem Pair.commit (hn1 : 16 ≤ n) (hs : 128 ≤ s) (h : Pair B n s gla gqa glb gqb la qa alla lb qb allb w) (hB : B ≤ w.heap.size) (hser : la.serial + 2 ≤ 4611686018427387904) (A : Option Addr) (m c : Nat) (ls : List (List UInt8)) (hln : ls.length = m) (hm : m ≤ 100000) (hsl : Slices w w.heap.size A ls) (ht : tooLong ls = false) (hf : (framesF ls).length + (framesF alla).length ≤ half n * s) :
    Calls Try.prog 14 #[.pointer (some ⟨gla, 0, none⟩), .slice A m c] w fun e w' => ∃ la' qa', e = .returned (.int .i64 0) ∧ Pair B n s gla gqa glb gqb la' qa' (alla ++ ls) lb qb allb w' ∧ la'.serial ≤ la.serial + 2 ∧ Below B w w' ∧ KeepS w w' := by
  have hc := commit_law hn1 hs h.a.st hser A m c ls hln hm hsl
  rw [h.a.el] at hc
  refine hc.mono fun e w' hE => ?_
  obtain ⟨l', q', code, rfl, hst, hput, hlive⟩ := hE
  have hu : la.used = (framesF alla).length := h.a.st.good.used
  have h0 : code = 0 := hput.fits (hlive h.a.cut).1 ht (by show _ ≤ half n * s - la.used; omega)
  obtain ⟨h1, h2, _, _⟩ := hput.stands h.a.st hst h0
  obtain ⟨p1, p2, p3⟩ := h.step hB hst h1 (hlive h.a.cut).2
  subst h0
  exact ⟨l', q', rfl, p1, h2, p2, p3⟩
/-- The first log's disk is opened anew. -/
theorem Pair.reopen (hn1 : 16 ≤ n) (hs : 128 ≤ s) (h : Pair B n s gla gqa glb gqb la qa alla lb qb allb w) (hB : B ≤ w.heap.size) :
    Calls Try.prog 13 #[.pointer (some ⟨gqa, 0, none⟩)] w fun e w' => ∃ qa' l2 A c, e = .returned (.tuple #[.pointer (some ⟨l2, 0, none⟩), .slice A alla.length c, .int .i64 0]) ∧ Pair B n s gla gqa glb gqb la qa' alla lb qb allb w' ∧ Below B w w' ∧ KeepS w w' ∧ Slices w' w'.heap.size A alla ∧ alla.length ≤ c := by
  have ho := open_live hn1 hs w qa h.a.st.disk h.a.st.dead h.a.cut h.a.st.hn h.a.st.hsz h.a.st.good
  rw [h.a.eq] at ho
  refine ho.mono fun e w' hE => ?_
  obtain ⟨q', l2, A, c, rfl, hst, hge, hS, hh, hsl, hrow, hlc, hcut⟩ := hE
  obtain ⟨p1, p2, p3⟩ := h.step hB (.of_dstep h.a.st.log h.a.st.disk hst) (h.a.st.other hst hS hh hsl) hcut
  exact ⟨q', l2.g, A, c, rfl, p1, p2, p3, hrow, hlc⟩
theorem Slices.sub {C b off : Nat} {ls : List (List UInt8)} (h : Slices w C (some ⟨b, off, none⟩) ls) (i k : Nat) : Slices w C (some ⟨b, off + i, none⟩) ((ls.drop i).take k) := by
  obtain ⟨vs, hl, hr, hi⟩ := h
  refine ⟨(vs.drop i).take k, by simp [hl], fun hn => ?_, fun j hj => ?_⟩
  · obtain ⟨b', o', e, hlt, hc⟩ := hr (by rintro rfl; simp at hn)
    injection e with e
    injection e with e1 e2
    subst e1 e2
    refine ⟨b, off + i, rfl, hlt, fun j u hu => ?_⟩
    rw [Nat.add_assoc]
    refine hc (i + j) u ?_
    rw [List.getElem?_take] at hu
    split at hu
    · rwa [List.getElem?_drop] at hu
    · cases hu
  · have hj2 : j < k ∧ i + j < ls.length := by simp at hj; omega
    obtain ⟨Ai, ci, e1, e2, e3⟩ := hi (i + j) hj2.2
    have hg : ((ls.drop i).take k)[j] = ls[i + j] := by simp
    refine ⟨Ai, ci, ?_, ?_, ?_⟩
    · rw [hg, List.getElem?_take, if_pos hj2.1, List.getElem?_drop]
      exact e1
    · rw [hg]; exact e2
    · rw [hg]; exact e3
end
theorem Slices.nil_ (w : World) (C : Nat) (A : Option Addr) : Slices w C A [] := ⟨[], rfl, Row.nil_ _ _ _, fun i hi => by simp at hi⟩
set_option maxRecDepth 100000 in
set_option maxHeartbeats 8000000 in
theorem together_walk (W : World) (v0 v1 : Value) (o0 : ArgOk 23 W v0) (o1 : ArgOk 23 W v1) :
    Calls Try.prog 4 #[v0, v1] W fun e w' => e = .returned (.bool true) ∧ Below W.heap.size W w' := by
  obtain ⟨Al, ml, cl, ll, rfl, hll, hml, hcl, hbl⟩ := o0.bytes
  obtain ⟨Ap, mp, cp, lp, rfl, hlp, hmp, hcp, hbp⟩ := o1.bytes
  clear o0 o1
  have hkn := known_any W
  have hbl' := Lib.hid hbl
  have hbp' := Lib.hid hbp
  have hll' := Lib.hid hll
  have hlp' := Lib.hid hlp
  clear hbl hbp hll hlp hml hcl hmp hcp
  go_enter Try.func4, Try.ntmps4
  go_wp2_with fail
  refine hkn.mono ?_
  clear hkn
  rintro e w1 ⟨rfl, hb1⟩
  have hB1 := Lib.hid hb1
  clear hb1
  by_cases h12 : 12 < ml
  · have hmi : (12 : Int) < (ml : Int) := by omega
    go_wp2_with fail
    go_ret
    exact ⟨rfl, hB1.out⟩
  have hm1 : ¬ (12 : Int) < (ml : Int) := by omega
  by_cases hpt : mp < ml
  · have hmi : (mp : Int) < (ml : Int) := by omega
    go_wp2_with fail
    go_ret
    exact ⟨rfl, hB1.out⟩
  have hm2 : ¬ (mp : Int) < (ml : Int) := by omega
  have hnd : Calls Try.prog 12 #[.int .i64 200, .int .i64 256] w1 _ := newd_any w1 200 256 (by omega) (by omega) (by omega) (by omega)
  go_wp2_with fail
  refine hnd.mono ?_
  clear hnd
  rintro e w2 ⟨qa0, rfl, hNa, _, hb2, hFa⟩
  have hB2 := Lib.hid (hB1.out.trans (hb2.mono hB1.out.size))
  have hNa' := Lib.hid hNa
  have hFa' : Hid (∀ x, qa0.F x → W.heap.size ≤ x ∧ x < w2.heap.size) := Lib.hid (fun x hx => ⟨Nat.le_trans hB1.out.size (hFa x hx), hNa.disk.lt x hx⟩)
  have hnd : Calls Try.prog 12 #[.int .i64 200, .int .i64 256] w2 _ := newd_any w2 200 256 (by omega) (by omega) (by omega) (by omega)
  clear hNa hb2 hFa
  go_wp2_with fail
  refine hnd.mono ?_
  clear hnd
  rintro e w3 ⟨qb0, rfl, hNb, _, hb3, hFb⟩
  have hB3 := Lib.hid (hB2.out.trans (hb3.mono hB2.out.size))
  have hda := Lib.hid (hNa'.out.disk.below hb3)
  have hNb' := Lib.hid hNb
  have hFb' : Hid (∀ x, qb0.F x → w2.heap.size ≤ x ∧ x < w3.heap.size) := Lib.hid (fun x hx => ⟨hFb x hx, hNb.disk.lt x hx⟩)
  have hop := open_live (n := 200) (s := 256) (by omega) (by omega) w3 qa0 hda.out hNa'.out.dead hNa'.out.cut hNa'.out.hn hNa'.out.hsz hNa'.out.good
  clear hNb hb3 hFb
  go_wp2_with fail
  refine hop.mono ?_
  clear hop
  rintro e w4 ⟨qa1, la1, A4, c4, rfl, hsta, hgea, hSa, hha, _, _, _, hcuta⟩
  obtain ⟨hb4, hHa⟩ := hsta.hi hB3.out.size (fun x hx => (hFa'.out x hx).1)
  have hB4 := Lib.hid (hB3.out.trans hb4)
  have hdb : DiskP qb0 w4 := hNb'.out.disk.loc fun x hx => hsta.wrt.block x (hFb'.out x hx).2 (by
    have h1 := (hFb'.out x hx).1
    have e1 := (hFa'.out qa0.g (.inl rfl)).2
    have e2 := (hFa'.out qa0.md (.inr (.inl rfl))).2
    have e3 := (hFa'.out qa0.mw (.inr (.inr (.inl rfl)))).2
    simp
    omega)
  have hoff1 : Hid (∀ x, FL la1 qa1 x → ¬ qb0.F x) := Lib.hid (fun x h1 h2 => by
    have h3 := hFb'.out x h2
    rcases h1 with e | e
    · omega
    · rcases hsta.F x e with e | e
      · have := hFa'.out x e; omega
      · omega)
  have hop := open_live (n := 200) (s := 256) (by omega) (by omega) w4 qb0 hdb hNb'.out.dead hNb'.out.cut hNb'.out.hn hNb'.out.hsz hNb'.out.good
  have hSa' := Lib.hid hSa
  have hHa' := Lib.hid hHa
  have hga : Hid (qa1.g = qa0.g ∧ W.heap.size ≤ la1.g ∧ la1.serial = 0 ∧ qa1.cut = false) := Lib.hid ⟨hsta.g, Nat.le_trans hB3.out.size hgea, congrArg Hdr.serial hha, hcuta⟩
  clear hsta hgea hSa hha hcuta hb4 hHa hdb
  go_wp2_with fail
  refine hop.mono ?_
  clear hop
  rintro e w5 ⟨qb1, lb1, A5, c5, rfl, hstb, hgeb, hSb, hhb, _, _, _, hcutb⟩
  obtain ⟨hb5, hHb⟩ := hstb.hi hB4.out.size (fun x hx => Nat.le_trans hB2.out.size (hFb'.out x hx).1)
  have hB5 := Lib.hid (hB4.out.trans hb5)
  obtain ⟨gla, hgla⟩ : ∃ g, g = la1.g := ⟨_, rfl⟩
  obtain ⟨glb, hglb⟩ : ∃ g, g = lb1.g := ⟨_, rfl⟩
  obtain ⟨gqa, hgqa⟩ : ∃ g, g = qa0.g := ⟨_, rfl⟩
  obtain ⟨gqb, hgqb⟩ : ∃ g, g = qb0.g := ⟨_, rfl⟩
  have hP5 : Hid (Pair W.heap.size 200 256 gla gqa glb gqb la1 qa1 [] lb1 qb1 [] w5) := Lib.hid ⟨⟨hSa'.out.aside fun x hx hf => hstb.wrt.block x hx (by
      have h1 := hoff1.out x hf
      simp
      refine ⟨fun e => h1 (.inl e), fun e => h1 (.inr (.inl e)), fun e => h1 (.inr (.inr (.inl e)))⟩), hHa'.out, hgla.symm, hga.out.1.trans hgqa.symm, by rw [hgla]; exact hga.out.2.1, hga.out.2.2.2⟩,
    ⟨hSb, hHb, hglb.symm, hstb.g.trans hgqb.symm, by rw [hglb]; exact Nat.le_trans hB4.out.size hgeb, hcutb⟩, fun x h1 h2 => by
      have h3 := hSa'.out.lt x h1
      rcases h2 with e | e
      · omega
      · rcases hstb.F x e with e | e
        · exact hoff1.out x h1 e
        · omega⟩
  have hser5 : Hid (la1.serial = 0 ∧ lb1.serial = 0) := Lib.hid ⟨hga.out.2.2.1, congrArg Hdr.serial hhb⟩
  rw [← hgla, ← hglb, ← hgqa, ← hgqb]
  clear hgla hglb hgqa hgqb hstb hgeb hSb hhb hcutb hb5 hHb hoff1 hga hSa' hHa' hFa' hFb' hNa' hNb' hda hB2 hB3 hB4
  have hbt : Calls Try.prog 15 #[.int .i64 5, .slice Al ml cl] w5 _ := batch_sl w5 5 (by omega) Al ml cl ll hll'.out (by omega) ((hbl'.out.below hB5.out).more hB5.out.size)
  go_wp2_with fail
  refine hbt.mono ?_
  clear hbt
  rintro e w6 ⟨A6, c6, rfl, hsl, hc6, hb6⟩
  have hB6 := Lib.hid (hB5.out.trans (hb6.mono hB5.out.size))
  have hP6 := Lib.hid (hP5.out.below hb6)
  obtain ⟨LB, hLB⟩ : ∃ L, L = batchF 5 ll := ⟨_, rfl⟩
  rw [← hLB] at hsl
  have hsl6 := Lib.hid hsl
  have hLl : Hid (LB.length = ml) := Lib.hid (by rw [hLB, batchF_length, hll'.out])
  have hLr : Hid (∀ r ∈ LB, r.length ≤ 255) := Lib.hid (fun r hr => by
    rw [hLB] at hr
    simp only [batchF, List.mem_map] at hr
    obtain ⟨k, _, rfl⟩ := hr
    rw [recF_length]
    have := (ll.getD k 0).toNat_lt
    omega)
  have hsub : Hid (∀ l : List (List UInt8), (∀ r ∈ l, r ∈ LB) → tooLong l = false ∧ (framesF l).length ≤ l.length * 263) := Lib.hid (fun l hl => ⟨tooLong_none (fun r hr => by have := hLr.out r (hl r hr); omega), framesF_bound l 255 (fun r hr => hLr.out r (hl r hr))⟩)
  have hhalf : half 200 * 256 = 25344 := rfl
  clear hsl hb6 hP5 hLB
  have hcm := hP6.out.commit (by omega) (by omega) hB6.out.size (by have := hser5.out; omega) A6 ml c6 LB hLl.out (by omega) hsl6.out (hsub.out LB (fun _ h => h)).1 (by have := (hsub.out LB (fun _ h => h)).2; rw [hLl.out] at this; have : (framesF []).length = 0 := rfl; omega)
  rw [List.nil_append] at hcm
  go_wp2_with fail
  refine hcm.mono ?_
  clear hcm
  rintro e w7 ⟨la7, qa7, rfl, hP, hse, hb7, hk7⟩
  have hB7 := Lib.hid (hB6.out.trans hb7)
  have hP7 := Lib.hid hP
  have hsl7 := Lib.hid (hk7 _ _ hsl6.out)
  have hser7 : Hid (la7.serial ≤ 2 ∧ lb1.serial = 0) := Lib.hid (by have := hser5.out; omega)
  clear hP hse hb7 hk7 hP6 hB6 hsl6 hser5
  have hcm := hP7.out.commit (by omega) (by omega) hB7.out.size (by have := hser7.out; omega) none 0 0 [] rfl (by omega) (.nil_ _ _ _) rfl (by have := (hsub.out LB (fun _ h => h)).2; rw [hLl.out] at this; have : (framesF []).length = 0 := rfl; omega)
  rw [List.append_nil] at hcm
  go_wp2_with fail
  refine hcm.mono ?_
  clear hcm
  rintro e w8 ⟨la8, qa8, rfl, hP, hse, hb8, hk8⟩
  have hB8 := Lib.hid (hB7.out.trans hb8)
  have hP8 := Lib.hid hP
  have hsl8 := Lib.hid (hk8 _ _ hsl7.out)
  have hser8 : Hid (lb1.serial = 0) := Lib.hid hser7.out.2
  clear hP hse hb8 hk8 hP7 hB7 hsl7 hser7
  go_wp2_with fail
  go_loopw [14] (fun iv wr => ∃ (i : Nat) (lb : LR) (qb : DR), i ≤ ml ∧ iv = .int .i64 i ∧ Hid (Pair W.heap.size 200 256 gla gqa glb gqb la8 qa8 LB lb qb (LB.take i) wr) ∧ Hid (lb.serial ≤ 2 * i) ∧ Hid (Below W.heap.size W wr) ∧ Hid (Slices wr wr.heap.size A6 LB)) (fun iv _ => ml - (intOf iv).toNat)
  case atStart => exact ⟨0, lb1, qb1, by omega, rfl, hP8, Lib.hid (by rw [hser8.out]; omega), hB8, hsl8⟩
  obtain ⟨i, lb, qb, hi, rfl, hP, hse, hB, hsl⟩ := hrel
  by_cases him : i < ml
  · have hii : (i : Int) < (ml : Int) := by omega
    obtain ⟨bp, op, rfl, _, hcell⟩ := (hbp'.out.below hB.out).at_ (k := i) (by rw [hlp'.out]; omega)
    obtain ⟨x, hx⟩ : ∃ x, x = (lp[i]'(by rw [hlp'.out]; omega)).toNat := ⟨_, rfl⟩
    have hxl : x < 256 := by rw [hx]; exact (lp[i]'(by rw [hlp'.out]; omega)).toNat_lt
    rw [← hx] at hcell
    clear hx
    obtain ⟨b6, o6, Ai, ci, rfl, _, _, _, _⟩ := hsl.out.at_ (k := i) (by rw [hLl.out]; exact him)
    have hmp2 : (i : Int) < (mp : Int) := by omega
    go_wp2_with fail
    obtain ⟨k, hk⟩ : ∃ k, k = ((i : Int) + min (1 + (x : Int) % 3) ((ml : Int) - (i : Int))).toNat - i := ⟨_, rfl⟩
    rw [← hk]
    have hk1 : 1 ≤ k ∧ i + k ≤ ml := by omega
    have hki : Hid ((i : Int) + min (1 + (x : Int) % 3) ((ml : Int) - (i : Int)) = ((i + k : Nat) : Int)) := Lib.hid (by omega)
    clear hk
    have hsb := hsl.out.sub i k
    obtain ⟨sb, hsbe⟩ : ∃ s, s = (LB.drop i).take k := ⟨_, rfl⟩
    rw [← hsbe] at hsb
    have hsbl : sb.length = k := by rw [hsbe, List.length_take, List.length_drop, hLl.out]; omega
    have hsbm : ∀ r ∈ sb, r ∈ LB := fun r hr => by rw [hsbe] at hr; exact List.mem_of_mem_drop (List.mem_of_mem_take hr)
    have hcat : Hid (LB.take i ++ sb = LB.take (i + k)) := Lib.hid (by rw [hsbe, ← List.take_add])
    have hcm := hP.out.symm.commit (by omega) (by omega) hB.out.size (by have := hse.out; omega) (some ⟨b6, o6 + i, none⟩) k (c6 - i) sb hsbl (by omega) hsb (hsub.out sb hsbm).1 (by
      have h1 := (hsub.out sb hsbm).2
      have h2 := (hsub.out (LB.take i) (fun _ h => List.mem_of_mem_take h)).2
      rw [List.length_take, hLl.out] at h2
      omega)
    rw [hcat.out] at hcm
    clear hsb hsbe hsbl hsbm
    refine hcm.mono ?_
    clear hcm
    rintro e w9 ⟨lb9, qb9, rfl, hP9, hse9, hb9, hk9⟩
    have hP9' := Lib.hid hP9.symm
    have hse9' : Hid (lb9.serial ≤ 2 * (i + k)) := Lib.hid (by have := hse.out; omega)
    have hB9 := Lib.hid (hB.out.trans hb9)
    have hsl9 := Lib.hid (hk9 _ _ hsl.out)
    clear hP9 hse9 hb9 hk9 hP hse hB hsl
    go_wp2_with fail
    rw [hki.out]
    refine ⟨⟨i + k, lb9, qb9, hk1.2, rfl, hP9', hse9', hB9, hsl9⟩, by simp [intOf]; omega⟩
  · obtain rfl : i = ml := by omega
    have hii : ¬ (i : Int) < (i : Int) := by omega
    have htk : LB.take i = LB := List.take_of_length_le (by rw [hLl.out]; exact Nat.le_refl _)
    have hPe : Hid (Pair W.heap.size 200 256 gla gqa glb gqb la8 qa8 LB lb qb LB wr) := Lib.hid (by have := hP.out; rw [htk] at this; exact this)
    have hop := hPe.out.reopen (by omega) (by omega) hB.out.size
    rw [hLl.out] at hop
    clear hP htk hse
    go_wp2_with fail
    refine hop.mono ?_
    clear hop
    rintro e w9 ⟨qa9, g9, A9, c9, rfl, hP9, hb9, hk9, hs9, hc9⟩
    have hP9' := Lib.hid hP9
    have hB9 := Lib.hid (hB.out.trans hb9)
    have hsl9 := Lib.hid (hk9 _ _ hsl.out)
    have hsx9 := Lib.hid hs9
    have hop := hP9.symm.reopen (by omega) (by omega) hB9.out.size
    rw [hLl.out] at hop
    clear hP9 hb9 hk9 hs9 hPe hB hsl
    go_wp2_with fail
    refine hop.mono ?_
    clear hop
    rintro e w10 ⟨qb10, g10, A10, c10, rfl, hP10, hb10, hk10, hs10, hc10⟩
    have hP10' := Lib.hid hP10.symm
    have hB10 := Lib.hid (hB9.out.trans hb10)
    have hsl10 := Lib.hid (hk10 _ _ hsl9.out)
    have hsx10 := Lib.hid (hk10 _ _ hsx9.out)
    have hsy10 := Lib.hid hs10
    have hsm := same_any w10 A9 A6 i i c9 c6 LB LB hLl.out hLl.out (by omega) (by omega) hsx10.out hsl10.out
    rw [decide_eq_true (rfl : LB = LB)] at hsm
    clear hP10 hb10 hk10 hs10 hP9' hB9 hsl9 hsx9
    go_wp2_with fail
    refine hsm.mono ?_
    clear hsm
    rintro e w11 ⟨rfl, hb11⟩
    have hP11 := Lib.hid (hP10'.out.below hb11)
    have hB11 := Lib.hid (hB10.out.trans (hb11.mono hB10.out.size))
    have hsm := same_any w11 A10 A6 i i c10 c6 LB LB hLl.out hLl.out (by omega) (by omega) (hsy10.out.up hb11) (hsl10.out.up hb11)
    rw [decide_eq_true (rfl : LB = LB)] at hsm
    clear hb11 hP10' hB10 hsl10 hsx10 hsy10
    go_wp2_with fail
    refine hsm.mono ?_
    clear hsm
    rintro e w12 ⟨rfl, hb12⟩
    have hP12 := Lib.hid (hP11.out.below hb12)
    have hB12 := Lib.hid (hB11.out.trans (hb12.mono hB11.out.size))
    have hct := count_lg hP12.out.a
    rw [hLl.out] at hct
    clear hb12 hP11 hB11
    go_wp2_with fail
    refine hct.mono ?_
    clear hct
    rintro e w13 ⟨rfl, e13⟩
    rw [e13]
    clear e13 w13
    have hct := count_lg hP12.out.b
    rw [hLl.out] at hct
    go_wp2_with fail
    refine hct.mono ?_
    clear hct
    rintro e w13 ⟨rfl, e13⟩
    rw [e13]
    clear e13 w13
    go_wp2_with fail
    go_ret
    exact ⟨rfl, hB12.out⟩
end Go.Proofs.Ytncddkbagmelkaa
