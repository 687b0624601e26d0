/-
  9 texts of the proof, in one file: no condition.
-/
import Derived.Test.YtpndglghpojjkaaPa4
import Derived.Deep.DeepCutAuto
import Derived.Test.YtpndglghpojjkaaPa1
/- The walks of blocks and of statements up to the bracket. -/
namespace Go.Proofs.Ytpndglghpojjkaa
open Go.RowKit Go.Deep

theorem stmtF_next {C : PC} {sum : PS → Ex × PS} {cond : PS → Cn × PS} {block : PS → Sl × PS} (hs : ∀ s, Stp C s (sum s).2) (hc : ∀ s, Stp C s (cond s).2) (hb : ∀ s, Stp C s (block s).2) (s : PS) (he : (stmtF C sum cond block s).2.e = 0) : s.i + 1 ≤ (stmtF C sum cond block s).2.i := by
 unfold stmtF at he ⊢
 split at he
 ·exact absurd he (failF_e 53 (by decide) s)
 ·rename_i hk
  rw [if_neg hk]
  split at he
  ·rename_i h1
   rw [if_pos h1]
   have h2 := (((Stp.want (C := C) [40] s.one.next).trans (hc _)).trans (Stp.want [41] _)).trans (hb _)
   have i1 : s.one.next.i = s.i + 1 := rfl
   split at he
   ·rename_i h3
    rw [if_pos h3]
    have := ((h2.trans (Stp.is_ h3)).trans (hb _)).i1
    simp only [testF] at this ⊢
    omega
   ·rename_i h3
    rw [if_neg h3]
    have := h2.i1
    simp only [testF] at this ⊢
    omega
  ·rename_i h1
   rw [if_neg h1]
   split at he
   ·rename_i h2
    rw [if_pos h2]
    have h3 := ((((Stp.want (C := C) [40] s.one.next).trans (hc _)).trans (Stp.want [41] _)).trans (hb _)).i1
    have i1 : s.one.next.i = s.i + 1 := rfl
    simp only [testF] at h3 ⊢
    omega
   ·rename_i h2
    rw [if_neg h2]
    have h3 := (plainF_stp hs hc s.n s.one).i1
    have h4 := want_next he
    have i1 : s.one.i = s.i := rfl
    simp only at h4 ⊢
    omega
theorem ReadsS.vac (f : Nat) (F : PC → PS → Sl × PS) : ReadsS f 41 F := fun C L w s hP hm _ => absurd hP.ok.deep (by omega)
set_option maxRecDepth 100000 in
set_option maxHeartbeats 4000000 in
theorem block_step (m : Nat) (stmts : PC → PS → Sl × PS) (hst : ReadsS 20 (m + 1) stmts) (hs : ∀ C s, Stp C s (stmts C s).2) : ReadsS 64 m (fun C => blockF C (stmts C)) := by
 intro C Z w s hP hm hf
 have hM := Lib.hid (Moved.refl hP)
 have hlt0 := hP.lt
 obtain ⟨b1, b2, b3, b4, b5, b6, b7⟩ := hP.bounds
 show Calls _ _ _ _ (SlPost C Z (blockF C (stmts C) s) w)
 obtain ⟨R, hR⟩ : ∃ x, x = blockF C (stmts C) s := ⟨_, rfl⟩
 rw [← hR]
 clear hP
 cases h1 : isF C [123] s with
 | false =>
  have hF : Hid (R = (.nil, failF C 51 s)) := Lib.hid (by rw [hR]; unfold blockF; rw [h1]; rfl)
  replace h1 := Lib.hid h1
  clear hR
  go_enter Try.func64, Try.ntmps64
  go_wp2_with fail
  refine (is_from hM.out [123] h1.out).mono ?_
  rintro e w1 ⟨rfl, q1, -⟩
  replace q1 := Lib.hid q1
  go_wp2_with fail
  refine (fail_from q1.out 51 (by decide) rfl).mono ?_
  rintro e w2 ⟨rfl, q2, -⟩
  replace q2 := Lib.hid q2
  go_wp2_with fail
  go_ret
  rw [hF.out]
  exact ⟨_, rfl, q2.out, SlAt.nil_ _ _⟩
 | true =>
  cases ho : (openF C s).1 with
  | false =>
   have hF : Hid (R = (.nil, (openF C s).2)) := Lib.hid (by rw [hR]; unfold blockF; simp only [h1, ho]; rfl)
   have ho' := Lib.hid (pair_of ho)
   replace h1 := Lib.hid h1
   clear hR ho
   go_enter Try.func64, Try.ntmps64
   go_wp2_with fail
   refine (is_from hM.out [123] h1.out).mono ?_
   rintro e w1 ⟨rfl, q1, -⟩
   replace q1 := Lib.hid q1
   go_wp2_with fail
   refine (open_from q1.out ho'.out).mono ?_
   rintro e w2 ⟨rfl, q2, -⟩
   replace q2 := Lib.hid q2
   go_wp2_with fail
   go_ret
   rw [hF.out]
   exact ⟨_, rfl, q2.out, SlAt.nil_ _ _⟩
  | true =>
   obtain ⟨e1, _, hlt⟩ := openF_true ho
   have hi := isF_lt h1
   obtain ⟨s2, hs2⟩ : ∃ x, x = (openF C s).2 := ⟨_, rfl⟩
   obtain ⟨r, hr⟩ : ∃ x, x = stmts C s2.next := ⟨_, rfl⟩
   have hF : Hid (R = (r.1, r.2.shut)) := Lib.hid (by rw [hR, hr, hs2]; unfold blockF; simp only [h1, ho]; rfl)
   have ho' : Hid (openF C s = (true, s2)) := Lib.hid (by rw [hs2]; exact pair_of ho)
   have hi3 : s2.i < C.tk.length := by rw [hs2, e1]; exact hi
   have hdp : m + 1 ≤ s2.next.deep := by rw [hs2, e1]; simp only [PS.next]; omega
   have hd1 : 1 ≤ r.2.deep := by rw [hr, (hs C s2.next).dp]; omega
   have hf2 : Hid (s2.next.Few) := Lib.hid (by rw [hs2, e1]; exact hf)
   replace hr := Lib.hid hr
   replace h1 := Lib.hid h1
   clear hR ho e1 hs2 hf
   go_enter Try.func64, Try.ntmps64
   go_wp2_with fail
   refine (is_from hM.out [123] h1.out).mono ?_
   rintro e w1 ⟨rfl, q1, -⟩
   replace q1 := Lib.hid q1
   go_wp2_with fail
   refine (open_from q1.out ho'.out).mono ?_
   rintro e w2 ⟨rfl, q2, -⟩
   obtain ⟨a0, d0, d1, d2, d3, d4, d5, d6, dfz⟩ := q2.facts
   have hi5 := q2.at_.bounds.2.2.1
   replace q2 := Lib.hid q2
   have hw1 := i64_next (i := s2.i) (by omega)
   have hcc := hst C Z _ s2.next (q2.out.next hi3).at_ hdp hf2.out
   rw [← hr.out] at hcc
   replace hcc := Lib.hid hcc
   go_wp2_with fail
   refine hcc.out.mono ?_
   clear hcc
   rintro e w3 ⟨v, rfl, q3, hE⟩
   clear a0 d0 d1 d2 d3 d4 d5 d6 dfz hw1 hi5
   have h3 := (q2.out.next hi3).trans q3
   have hE3 := hE.ge (B := w.heap.size) (q2.out.next hi3).wr.size
   obtain ⟨c1, c2, c3, c4, c5, c6, c7⟩ := h3.bounds
   obtain ⟨a0, d0, d1, d2, d3, d4, d5, d6, dfz⟩ := h3.facts
   replace h3 := Lib.hid h3
   replace hE3 := Lib.hid hE3
   clear q3 hE q2 q1
   have hw1 := i64_pred hd1 (by omega)
   go_wp2_with fail
   go_ret
   rw [hF.out]
   have hst' : Writes [some Z.g] w3 (w3.setCell ⟨Z.g, 5, none⟩ (.int .i64 ((r.2.deep : Int) - 1))) := Writes.store w3 (by simp) _
   exact ⟨_, rfl, h3.out.shut hd1, hE3.out.pw hst' hlt0⟩

/-- The loop over statements: how it stands. -/
structure StmtsL (C : PC) (L : PL) (stmt : PS → (Hd × Sl × Sl) × PS) (m : Nat) (R : Sl × PS) (f : Nat) (l : Sl) (s : PS) (v : Value) (w0 w : World) : Prop where
 eq : stmtsL C stmt f l s = R
 fuel : s.e = 0 → C.tk.length < s.i + f ∧ l.len ≤ s.i
 len : l.len ≤ 5000
 dp : m ≤ s.deep
 few : s.Few
 mv : Moved C L s w0 w
 own : ∃ vs, w.ownsRow w0.heap.size 38 10 v l.len vs ∧ SlCells w (GeBut w0.heap.size v) l vs
theorem SlAt.own {w : World} {base : Nat} {l : Sl} {vs : List Value} {v : Value} (h : w.ownsRow base 38 10 v l.len vs) (h2 : SlCells w (GeBut base v) l vs) (hl : l.len ≤ 100000) : SlAt w (Ge base) l v := by
 obtain ⟨A, c, e, hr, hc⟩ := RowS.own (S := Ge base) h (fun g hg => ownK_ge h hg)
 exact ⟨A, c, vs, e, hl, hc, hr, h2.mono fun x _ hx => hx.1⟩
theorem SlCells.pw {w w' : World} {base g : Nat} {v : Value} {l : Sl} {vs : List Value} (h : SlCells w (GeBut base v) l vs) (hW : Writes [some g] w w') (hg : g < base) : SlCells w' (GeBut base v) l vs :=
 h.keep fun x hx hS => hW.block x hx fun e => by simp at e; subst e; exact absurd hS.1 (Nat.not_le_of_lt hg)
theorem SlCells.push {w2 w3 w4 : World} {base : Nat} {v v' : Value} {l : Sl} {vs : List Value} {h : Hd} {t e : Sl} {ve vf vc va vt vl : Value} (hl : SlCells w2 (GeBut base v) l vs) (hh : HdAt w2 (GeBut base v) h ve vf vc va) (ht : SlAt w2 (GeBut base v) t vt) (he : SlAt w2 (GeBut base v) e vl)
  (hb : Below w2.heap.size w2 w3) (hg : w3.grownBy w4 v.ownBlock) (hv : v'.ownBlock = v.ownBlock ∨ v'.ownBlock = some w3.heap.size) : SlCells w4 (GeBut base v') (l.snoc h t e) (vs ++ (h.cells ve vf vc va vt vl).toList) := by
 have h3 : SlCells w3 (GeBut base v) (l.snoc h t e) (vs ++ (h.cells ve vf vc va vt vl).toList) := (hl.snoc hh ht he).keep fun x hx _ => hb.block x hx
 have h5 : SlCells w3 (fun x => GeBut base v x ∧ GeBut base v' x) (l.snoc h t e) (vs ++ (h.cells ve vf vc va vt vl).toList) := h3.mono fun x hx hS => ⟨hS, GeBut.step hv x hx hS⟩
 have h6 : SlCells w4 (fun x => GeBut base v x ∧ GeBut base v' x) (l.snoc h t e) (vs ++ (h.cells ve vf vc va vt vl).toList) := h5.keep fun x hx hS => hg.block x hx fun e => hS.1.2 e.symm
 exact h6.mono fun _ _ hS => hS.2
section
variable {C : PC} {L : PL} {stmt : PS → (Hd × Sl × Sl) × PS} {m : Nat} {R : Sl × PS} {f : Nat} {l : Sl} {s : PS} {v : Value} {w0 w : World}
theorem StmtsL.stop (h : StmtsL C L stmt m R f l s v w0 w) (hs : s.e ≠ 0) : R = (l, s) := by
 rw [← h.eq]
 cases f with
 | zero => rfl
 | succ f => unfold stmtsL; rw [if_pos hs]
theorem StmtsL.go_ (h : StmtsL C L stmt m R f l s v w0 w) (he : s.e = 0) (hi : s.i ≤ C.tk.length) :
  ∃ f', f = f' + 1 ∧ R = if isF C [125] s then (l, s.next) else if C.tk.length ≤ s.i then (.nil, failF C 51 s) else stmtsL C stmt f' (l.snoc (stmt s).1.1 (stmt s).1.2.1 (stmt s).1.2.2) (stmt s).2 := by
 have hf := (h.fuel he).1
 cases f with
 | zero => omega
 | succ f =>
  refine ⟨f, rfl, ?_⟩
  rw [← h.eq]
  conv => lhs; unfold stmtsL
  rw [if_neg (by omega)]
end
theorem Try.infoStmt : (Try.prog.info? 38).map (fun i => (i.zero, i.size, i.bytes)) = some (some (.agg #[.int .i64 0, .string ⟨#[]⟩, .string ⟨#[]⟩, .pointer none, .pointer none, .pointer none, .slice none 0 0, .slice none 0 0, .slice none 0 0, .int .i64 0]), 10, 144) := by kernel_rfl
/-- Function f reads a statement as F does, where m or more are open. -/
def ReadsT (f : Nat) (m : Nat) (F : PC → PS → (Hd × Sl × Sl) × PS) : Prop := ∀ (C : PC) (L : PL) (w : World) (s : PS), PAt C L s w → m ≤ s.deep → s.n ≤ 200 → Calls Try.prog f #[.pointer (some ⟨L.g, 0, none⟩)] w (StPost C L (F C s) w)
set_option maxRecDepth 100000 in
set_option maxHeartbeats 4000000 in
theorem stmts_step (m : Nat) (stmt : PC → PS → (Hd × Sl × Sl) × PS) (hst : ReadsT 42 m stmt) (hs : ∀ C s, s.e = 0 → Stp C s (stmt C s).2) (hnx : ∀ C s, (stmt C s).2.e = 0 → s.i + 1 ≤ (stmt C s).2.i) : ReadsS 20 m (fun C => stmtsF C (stmt C)) := by
 intro C L w s hP hm hfew
 obtain ⟨iA, hiA, hzA0, hzA1, hzA2⟩ := info_parts Try.infoStmt
 have hM := Lib.hid (Moved.refl hP)
 have hlt0 := hP.lt
 have hlen := hP.fit.len
 show Calls _ _ _ _ (SlPost C L (stmtsF C (stmt C) s) w)
 obtain ⟨R, hR⟩ : ∃ x, x = stmtsF C (stmt C) s := ⟨_, rfl⟩
 rw [← hR]
 have hL1 : Hid (StmtsL C L (stmt C) m R (C.tk.length + 1) .nil s (.slice none 0 0) w w) := Lib.hid ⟨hR.symm, fun _ => ⟨by omega, Nat.zero_le _⟩, Nat.zero_le _, hm, hfew, hM.out, [], ⟨rfl, .inl ⟨rfl, rfl⟩⟩, rfl⟩
 clear hR hP hfew
 go_enter Try.func20, Try.ntmps20
 go_wp2_with fail
 go_loopw [3] (fun av wr => ∃ (f : Nat) (l : Sl) (t : PS), Hid (StmtsL C L (stmt C) m R f l t av w wr)) (fun _ wr => left2 L wr)
 case atStart => exact ⟨_, _, _, hL1⟩
 clear hL1
 obtain ⟨f, l, t, hL⟩ := hrel
 rename World => wl
 obtain ⟨a0, d0, d1, d2, d3, d4, d5, d6, dfz⟩ := hL.out.mv.facts
 obtain ⟨b1, b2, b3, b4, b5, b6, b7⟩ := hL.out.mv.bounds
 have hll := hL.out.len
 by_cases he : t.e = 0
 case neg =>
  have he' : ((t.e : Int) == 0) = false := by simp; omega
  have hF := Lib.hid (hL.out.stop he)
  obtain ⟨vs, hown, hcells⟩ := hL.out.own
  replace hown := Lib.hid hown
  replace hcells := Lib.hid hcells
  go_wp2_with fail
  go_ret
  rw [hF.out]
  exact ⟨_, rfl, hL.out.mv, SlAt.own hown.out hcells.out (Nat.le_trans hll (by decide))⟩
 have he' : ((t.e : Int) == 0) = true := by simp; omega
 obtain ⟨f', hff, hRR⟩ := hL.out.go_ he b3
 have hfu := hL.out.fuel he
 have hst0 := Lib.hid (hs C t he)
 have ht200 := hL.out.few.2 he
 have he0 := Lib.hid he
 obtain ⟨vs, hown, hcells⟩ := hL.out.own
 replace hown := Lib.hid hown
 replace hcells := Lib.hid hcells
 clear he
 cases h1 : isF C [125] t with
 | true =>
  have hF : Hid (R = (l, t.next)) := Lib.hid (by rw [hRR, if_pos h1])
  replace h1 := Lib.hid h1
  clear hRR
  go_wp2_with fail
  refine (take_yes hL.out.mv [125] h1.out rfl).mono ?_
  rintro e w2 ⟨rfl, q2, hW2⟩
  have hO2 := Lib.hid (own_pw hown.out hW2 hlt0)
  have hC2 := Lib.hid (hcells.out.pw hW2 hlt0)
  replace q2 := Lib.hid q2
  clear hW2 a0 d0 d1 d2 d3 d4 d5 d6 dfz
  go_wp2_with fail
  go_ret
  rw [hF.out]
  exact ⟨_, rfl, q2.out, SlAt.own hO2.out hC2.out (Nat.le_trans hll (by decide))⟩
 | false =>
  rw [if_neg (by rw [h1]; simp)] at hRR
  replace h1 := Lib.hid h1
  replace hRR := Lib.hid hRR
  go_wp2_with fail
  refine (take_no hL.out.mv [125] h1.out).mono ?_
  rintro e w2 ⟨rfl, q2, hW2⟩
  have hO2 := Lib.hid (own_pw hown.out hW2 hlt0)
  have hC2 := Lib.hid (hcells.out.pw hW2 hlt0)
  clear hW2 a0 d0 d1 d2 d3 d4 d5 d6 dfz
  obtain ⟨a0, d0, d1, d2, d3, d4, d5, d6, dfz⟩ := q2.facts
  replace q2 := Lib.hid q2
  by_cases hi : C.tk.length ≤ t.i
  ·have hi2 : decide (C.tk.length ≤ t.i) = true := by simpa using hi
   have hF : Hid (R = (.nil, failF C 51 t)) := Lib.hid (by rw [hRR.out, if_pos hi])
   go_wp2_with fail
   go_quiet (fail)
   go_wp2_with fail
   refine (fail_from (q2.out.below (below_drewN (Below.refl _ _) _)) 51 (by decide) rfl).mono ?_
   rintro e w3 ⟨rfl, q3, -⟩
   replace q3 := Lib.hid q3
   clear a0 d0 d1 d2 d3 d4 d5 d6 dfz
   go_wp2_with fail
   go_ret
   rw [hF.out]
   exact ⟨_, rfl, q3.out, SlAt.nil_ _ _⟩
  ·have hi2 : decide (C.tk.length ≤ t.i) = false := by simpa using hi
   obtain ⟨r, hr⟩ : ∃ x, x = stmt C t := ⟨_, rfl⟩
   have hnx0 := hnx C t
   rw [← hr] at hnx0
   have hstr : Hid (Stp C t r.2) := Lib.hid (by rw [hr]; exact hst0.out)
   have hRS : Hid (R = stmtsL C (stmt C) f' (l.snoc r.1.1 r.1.2.1 r.1.2.2) r.2) := Lib.hid (by rw [hRR.out, if_neg hi, hr])
   replace hr := Lib.hid hr
   replace hnx0 := Lib.hid hnx0
   clear hRR hst0
   go_wp2_with fail
   go_quiet (fail)
   have q3 := q2.out.below (below_drewN (Below.refl _ w2) nq)
   have hO3 := own_below hO2.out (below_drewN (Below.refl _ w2) nq)
   have hC3 := SlCells.keep (w := w2) (w' := w2.drewN nq) (fun x hx _ => rfl) hC2.out
   obtain ⟨w3, hw3⟩ : ∃ x, x = w2.drewN nq := ⟨_, rfl⟩
   rw [← hw3] at q3 hO3 hC3 ⊢
   clear hw3 a0 d0 d1 d2 d3 d4 d5 d6 dfz q2 hO2 hC2
   replace q3 := Lib.hid q3
   replace hO3 := Lib.hid hO3
   replace hC3 := Lib.hid hC3
   have hcc := hst C L w3 t q3.out.at_ hL.out.dp ht200
   rw [← hr.out] at hcc
   replace hcc := Lib.hid hcc
   go_wp2_with fail
   refine hcc.out.mono ?_
   clear hcc
   rintro e w4 ⟨ve, vf, vc, va, vt, vl, rfl, q4, hH, hT, hE⟩
   have q5 := q3.out.trans q4
   have hO4 := own_pw hO3.out q4.wr hlt0
   have hC4 := hC3.out.pw q4.wr hlt0
   have hge : ∀ x, x < w4.heap.size → Ge w3.heap.size x → GeBut w.heap.size u3 x := fun x _ hS => ⟨Nat.le_trans q3.out.wr.size hS, fun e => by have := hO3.out.lt x e; have : w3.heap.size ≤ x := hS; omega⟩
   have hH4 := hH.mono hge
   have hT4 := hT.mono hge
   have hE4 := hE.mono hge
   obtain ⟨pe, ee⟩ := hH4.e.vp
   obtain ⟨pf, ef⟩ := hH4.f.vp
   obtain ⟨pc, ec⟩ := cnAt_vp hH4.c
   obtain ⟨Aa, ca, ea⟩ := agsAt_slice hH4.a
   obtain ⟨At, ct, et⟩ := SlAt.slice_ hT4
   obtain ⟨Ae, ce, el⟩ := SlAt.slice_ hE4
   rw [ee, ef, ec, ea] at hH4
   rw [et] at hT4
   rw [el] at hE4
   rw [ee, ef, ec, ea, et, el]
   clear hH hT hE hge ee ef ec ea et el
   have hbn := below_new w4 (.cells #[.int .i64 r.1.1.k, .string (strV r.1.1.x), .string (strV r.1.1.y), .pointer pe, .pointer pf, .pointer pc, .slice Aa r.1.1.args.length ca, .slice At r.1.2.1.len ct, .slice Ae r.1.2.2.len ce, .int .i64 r.1.1.at_] 38)
   have hO5 := Lib.hid (own_below hO4 hbn)
   have hnews : Hid (∀ (j : Nat) u, ([.int .i64 r.1.1.k, .string (strV r.1.1.x), .string (strV r.1.1.y), .pointer pe, .pointer pf, .pointer pc, .slice Aa r.1.1.args.length ca, .slice At r.1.2.1.len ct, .slice Ae r.1.2.2.len ce, .int .i64 r.1.1.at_] : List Value)[j]? = some u → (w4.alloc (.cells #[.int .i64 r.1.1.k, .string (strV r.1.1.x), .string (strV r.1.1.y), .pointer pe, .pointer pf, .pointer pc, .slice Aa r.1.1.args.length ca, .slice At r.1.2.1.len ct, .slice Ae r.1.2.2.len ce, .int .i64 r.1.1.at_] 38)).cell? ((⟨w4.heap.size, 0, none⟩ : Addr).add j) = some u) := Lib.hid (fun j u hu => by
    have hh := Holds.new w4 38 #[.int .i64 r.1.1.k, .string (strV r.1.1.x), .string (strV r.1.1.y), .pointer pe, .pointer pf, .pointer pc, .slice Aa r.1.1.args.length ca, .slice At r.1.2.1.len ct, .slice Ae r.1.2.2.len ce, .int .i64 r.1.1.at_]
    have hadd : (⟨w4.heap.size, 0, none⟩ : Addr).add j = ⟨w4.heap.size, j, none⟩ := by unfold Addr.add; split <;> simp_all
    rw [hadd, hh.cell]
    simpa using hu)
   have hone : Hid (∀ u ∈ ([.int .i64 r.1.1.k, .string (strV r.1.1.x), .string (strV r.1.1.y), .pointer pe, .pointer pf, .pointer pc, .slice Aa r.1.1.args.length ca, .slice At r.1.2.1.len ct, .slice Ae r.1.2.2.len ce, .int .i64 r.1.1.at_] : List Value), u.oneCell' = true) := Lib.hid (by simp; exact ⟨rfl, rfl, rfl, rfl, rfl, rfl, rfl, rfl, rfl, rfl⟩)
   have hsz : Hid (w.heap.size ≤ (w4.alloc (.cells #[.int .i64 r.1.1.k, .string (strV r.1.1.x), .string (strV r.1.1.y), .pointer pe, .pointer pf, .pointer pc, .slice Aa r.1.1.args.length ca, .slice At r.1.2.1.len ct, .slice Ae r.1.2.2.len ce, .int .i64 r.1.1.at_] 38)).heap.size) := Lib.hid (Nat.le_trans q5.wr.size hbn.size)
   have q6 := Lib.hid (q5.below hbn)
   replace hbn := Lib.hid hbn
   replace hC4 := Lib.hid hC4
   replace hH4 := Lib.hid hH4
   replace hT4 := Lib.hid hT4
   replace hE4 := Lib.hid hE4
   have hl1 : Hid ((l.snoc r.1.1 r.1.2.1 r.1.2.2).len = l.len + 1) := Lib.hid (Sl.snoc_len _ _ _ _)
   have hfu2 := hfu.2
   replace hfu := Lib.hid hfu
   clear q5 hO4 q4
   unfold Hd.cells
   go_wp2_with
    (at_builtin
     go_loud (refine wpList_append_own_at _ rfl (.tmp 26) (.tmp 29) 24 rfl w.heap.size 38 iA _ 10 144 rfl hiA hzA0 hzA1 hzA2 rfl (by omega) u3 l.len vs rfl hO5.out ⟨w4.heap.size, 0, none⟩ 1 1 [.int .i64 r.1.1.k, .string (strV r.1.1.x), .string (strV r.1.1.y), .pointer pe, .pointer pf, .pointer pc, .slice Aa r.1.1.args.length ca, .slice At r.1.2.1.len ct, .slice Ae r.1.2.2.len ce, .int .i64 r.1.1.at_] rfl rfl hnews.out hone.out (by unfold maxLen; omega) (by omega) hsz.out ?_)
     go_loud (
      intro v5 w5 ho5 hg5 _ hv5
      have hO7 : Hid (w5.ownsRow w.heap.size 38 10 v5 (l.snoc r.1.1 r.1.2.1 r.1.2.2).len (vs ++ [.int .i64 r.1.1.k, .string (strV r.1.1.x), .string (strV r.1.1.y), .pointer pe, .pointer pf, .pointer pc, .slice Aa r.1.1.args.length ca, .slice At r.1.2.1.len ct, .slice Ae r.1.2.2.len ce, .int .i64 r.1.1.at_])) := Lib.hid (own_len ho5 hl1.out.symm)
      have hC7 : Hid (SlCells w5 (GeBut w.heap.size v5) (l.snoc r.1.1 r.1.2.1 r.1.2.2) (vs ++ [.int .i64 r.1.1.k, .string (strV r.1.1.x), .string (strV r.1.1.y), .pointer pe, .pointer pf, .pointer pc, .slice Aa r.1.1.args.length ca, .slice At r.1.2.1.len ct, .slice Ae r.1.2.2.len ce, .int .i64 r.1.1.at_])) := Lib.hid (SlCells.push hC4.out hH4.out hT4.out hE4.out hbn.out hg5 hv5)
      have q7 : Hid (Moved C L r.2 w w5) := Lib.hid ⟨q6.out.at_.writes (Writes.of_grown hg5 (M := [u3.ownBlock]) (by simp)) (fun k hk => by have := ownK_ge hO5.out (List.mem_singleton.1 hk).symm; omega), by
       refine q6.out.wr.then_ (Writes.of_grown hg5 (M := [u3.ownBlock]) (by simp)) (fun k hk hm => ?_)
       have := ownK_ge hO5.out (List.mem_singleton.1 hm).symm
       omega⟩
      clear ho5 hg5 hv5))
   have hfewr : r.2.Few := hstr.out.nn hL.out.few
   have hL7 : Hid (StmtsL C L (stmt C) m R f' (l.snoc r.1.1 r.1.2.1 r.1.2.2) r.2 v5 w w5) :=
    Lib.hid ⟨hRS.out.symm, fun h => by have := hnx0.out h; have := hfu.out.1; rw [hl1.out]; omega, by rw [hl1.out]; omega, by rw [hstr.out.dp]; exact hL.out.dp, hfewr, q7.out, _, hO7.out, hC7.out⟩
   have hm1 := Lib.hid hL.out.mv.left2
   have hm2 := Lib.hid hL7.out.mv.left2
   have hb7 := hL7.out.mv.bounds.2.2.1
   have hless := Lib.hid (left2_less he0.out (Nat.le_trans hb7 hlen) hstr.out.i1 (fun h => by have := hnx0.out h; omega))
   exact ⟨⟨_, _, _, hL7⟩, by rw [hm1.out, hm2.out]; exact hless.out⟩
end Go.Proofs.Ytpndglghpojjkaa
/- Statements are read as the plain parser reads them; the walk of one more name of a list. -/
namespace Go.Proofs.Ytpndglghpojjkaa
open Go.RowKit Go.Deep

theorem ReadsT.of {m : Nat} {sum : PC → PS → Ex × PS} {cond : PC → PS → Cn × PS} {block : PC → PS → Sl × PS} (hsum : Reads6 62 m sum) (hcond : ReadsC 63 m cond) (hblock : ReadsS 64 m block)
  (hs : ∀ C s, Stp C s (sum C s).2) (hc : ∀ C s, Stp C s (cond C s).2) (hb : ∀ C s, Stp C s (block C s).2) : ReadsT 42 m (fun C => stmtF C (sum C) (cond C) (block C)) :=
 fun C L w s hP hm hn => stmt_step m sum cond block hsum hcond hblock hs hc hb C L w s hP hm hn
theorem stmts_all : ∀ d, d ≤ 40 → ReadsT 42 (40 - d) (fun C => stmtD C d) ∧ ReadsS 20 (40 - d) (fun C => stmtsD C d)
 | 0, _ => by
  have hb : ReadsS 64 40 (fun C => blockD C 0) := block_step 40 (fun _ s => (.nil, s)) (ReadsS.vac _ _) (fun _ s => Stp.refl s)
  have h1 : ReadsT 42 40 (fun C => stmtD C 0) := ReadsT.of (exprs_all 0 (by omega)).2.2 (conds_all 0 (by omega)).2.2 hb (fun C s => sumD_stp 0 s) (fun C s => condD_stp 0 s) (fun C s => blockD_stp 0 s)
  exact ⟨h1, stmts_step 40 (fun C => stmtD C 0) h1 (fun C s he => stmtD_stp 0 s he) (fun C s he => stmtF_next (sumD_stp 0) (condD_stp 0) (blockD_stp 0) s he)⟩
 | d + 1, hd => by
  obtain ⟨_, i2⟩ := stmts_all d (by omega)
  have e : 40 - d = 40 - (d + 1) + 1 := by omega
  rw [e] at i2
  have hb : ReadsS 64 (40 - (d + 1)) (fun C => blockD C (d + 1)) := block_step _ (fun C => stmtsD C d) i2 (fun C s => stmtsD_stp d s)
  have h1 : ReadsT 42 (40 - (d + 1)) (fun C => stmtD C (d + 1)) := ReadsT.of (exprs_all (d + 1) hd).2.2 (conds_all (d + 1) hd).2.2 hb (fun C s => sumD_stp (d + 1) s) (fun C s => condD_stp (d + 1) s) (fun C s => blockD_stp (d + 1) s)
  exact ⟨h1, stmts_step _ (fun C => stmtD C (d + 1)) h1 (fun C s he => stmtD_stp (d + 1) s he) (fun C s he => stmtF_next (sumD_stp (d + 1)) (condD_stp (d + 1)) (blockD_stp (d + 1)) s he)⟩
def Vr.cells (v : Vr) : List Value := [.string (strV v.nm), .bool v.ptr]
theorem Try.infoVar : (Try.prog.info? 59).map (fun i => (i.zero, i.size, i.bytes)) = some (some (.agg #[.string ⟨#[]⟩, .bool false]), 2, 24) := by kernel_rfl
/-- What 'more' leaves. -/
def MorePost (C : PC) (L : PL) (B : Nat) (v : Value) (r : List Vr × PS) (w : World) (e : Ending) (w' : World) : Prop :=
 ∃ v', e = .returned v' ∧ PAt C L r.2 w' ∧ Writes [some L.g, v.ownBlock] w w' ∧ w'.ownsRow B 59 2 v' r.1.length (r.1.flatMap Vr.cells) ∧ (∀ x ∈ r.1, x.nm.length ≤ 4096)
set_option maxRecDepth 100000 in
set_option maxHeartbeats 4000000 in
theorem more_any {C : PC} {L : PL} (w : World) (s : PS) (hP : PAt C L s w) (B : Nat) (hB : L.g < B) (hBw : B ≤ w.heap.size) (v : Value) (l : List Vr) (hown : w.ownsRow B 59 2 v l.length (l.flatMap Vr.cells)) (hl : l.length ≤ 5000) (hnm : ∀ x ∈ l, x.nm.length ≤ 4096) (ptr : Bool) (most : Nat) :
  Calls Try.prog 16 #[.pointer (some ⟨L.g, 0, none⟩), v, .bool ptr, .int .i64 most] w (MorePost C L B v (moreV C l ptr most s) w) := by
 obtain ⟨iA, hiA, hzA0, hzA1, hzA2⟩ := info_parts Try.infoVar
 obtain ⟨R, hR⟩ : ∃ x, x = moreV C l ptr most s := ⟨_, rfl⟩
 rw [← hR]
 have hlt0 := hP.lt
 obtain ⟨A, c, hv, _, _⟩ := RowS.own (S := fun _ => True) hown (fun _ _ => trivial)
 have hM := Lib.hid (Moved.refl hP)
 obtain ⟨ln, hln⟩ : ∃ x, x = l.length := ⟨_, rfl⟩
 rw [← hln] at hv hl
 obtain ⟨x, hx⟩ : ∃ x, x = (nameF C s).1 := ⟨_, rfl⟩
 obtain ⟨s2, hs2⟩ : ∃ x, x = (nameF C s).2 := ⟨_, rfl⟩
 have hnf : Hid (nameF C s = (x, s2)) := Lib.hid (by rw [hx, hs2])
 replace hnm := Lib.hid hnm
 replace hown := Lib.hid hown
 replace hln := Lib.hid hln
 subst hv
 clear hP
 have hgoal : ∀ (b : Bool), namedF C s = b → (b = true → ln < most) → Calls Try.prog 16 #[.pointer (some ⟨L.g, 0, none⟩), .slice A ln c, .bool ptr, .int .i64 most] w (MorePost C L B (.slice A ln c) R w) := fun b hn hlm => by
  have hF : Hid (R = (l ++ [(⟨x, ptr⟩ : Vr)], s2)) := Lib.hid (by
   rw [hR, hx, hs2]
   unfold moreV
   rw [hn]
   cases b with
   | false => rfl
   | true =>
    have := hlm rfl
    rw [hln.out] at this
    rw [decide_eq_false (by omega)]
    rfl)
  replace hn := Lib.hid hn
  clear hR hx hs2
  have hbn := fun (w5 : World) => below_new w5 (.cells #[.string (strV x), .bool ptr] 59)
  have hlt2 : b = true → (ln : Int) < (most : Int) := fun h => by have := hlm h; omega
  have hge2 : b = true → decide (most ≤ ln) = false := fun h => by have := hlm h; simp; omega
  go_enter Try.func16, Try.ntmps16
  go_wp2_with fail
  refine (named_from hM.out hn.out).mono ?_
  rintro e w1 ⟨rfl, q1, hW1⟩
  have hO1 := Lib.hid (own_pw hown.out hW1 hB)
  replace q1 := Lib.hid q1
  clear hW1
  cases b with
  | true =>
   have hlt3 := hlt2 rfl
   have hge3 := hge2 rfl
   clear hlt2 hge2 hlm hbn
   go_wp2_with fail
   refine (name_from q1.out hnf.out).mono ?_
   rintro e w2 ⟨rfl, q2, hxl, hW2⟩
   have hO2 := own_pw hO1.out hW2 hB
   have hbn := below_new w2 (.cells #[.string (strV x), .bool ptr] 59)
   have hO3 := Lib.hid (own_below hO2 hbn)
   have hnews : Hid (∀ (q : Nat) u, ([.string (strV x), .bool ptr] : List Value)[q]? = some u → (w2.alloc (.cells #[.string (strV x), .bool ptr] 59)).cell? ((⟨w2.heap.size, 0, none⟩ : Addr).add q) = some u) := Lib.hid (fun q u hu => by
    have hh := Holds.new w2 59 #[.string (strV x), .bool ptr]
    have hadd : (⟨w2.heap.size, 0, none⟩ : Addr).add q = ⟨w2.heap.size, q, none⟩ := by unfold Addr.add; split <;> simp_all
    rw [hadd, hh.cell]
    simpa using hu)
   have hone : Hid (∀ u ∈ ([.string (strV x), .bool ptr] : List Value), u.oneCell' = true) := Lib.hid (by simp; exact ⟨rfl, rfl⟩)
   have hsz : Hid (B ≤ (w2.alloc (.cells #[.string (strV x), .bool ptr] 59)).heap.size) := Lib.hid (Nat.le_trans hBw (Nat.le_trans q2.wr.size hbn.size))
   have q3 := Lib.hid (q2.below hbn)
   clear hO2 hW2 hbn q2
   go_wp2_with
    (at_builtin
     go_loud (refine wpList_append_own_at _ rfl (.tmp 20) (.tmp 25) 23 rfl B 59 iA _ 2 24 rfl hiA hzA0 hzA1 hzA2 rfl (by omega) (.slice A ln c) ln (l.flatMap Vr.cells) rfl (own_len hO3.out hln.out.symm) ⟨w2.heap.size, 0, none⟩ 1 1 [.string (strV x), .bool ptr] rfl rfl hnews.out hone.out (by unfold maxLen; omega) (by omega) hsz.out ?_)
     go_loud (
      intro v5 w5 ho5 hg5 _ _
      have hO7 : Hid (w5.ownsRow B 59 2 v5 (ln + 1) (l.flatMap Vr.cells ++ [.string (strV x), .bool ptr])) := Lib.hid ho5
      have hP7 : Hid (PAt C L s2 w5 ∧ Writes [some L.g, (Value.slice A ln c).ownBlock] w w5) := Lib.hid ⟨q3.out.at_.writes (Writes.of_grown hg5 (M := [(Value.slice A ln c).ownBlock]) (by simp)) (fun k hk => by have := ownK_ge hO3.out (List.mem_singleton.1 hk).symm; omega), (q3.out.wr.more (by simp)).trans (Writes.of_grown hg5 (by simp))⟩
      clear ho5 hg5))
   go_ret
   rw [hF.out]
   refine ⟨_, rfl, hP7.out.1, hP7.out.2, ?_, fun y hy => ?_⟩
   ·rw [List.length_append, List.length_singleton, ← hln.out, List.flatMap_append]
    exact hO7.out
   ·rcases List.mem_append.1 hy with h1 | h1
    ·exact hnm.out y h1
    ·simp at h1; subst h1; exact hxl
  | false =>
   clear hlt2 hge2 hlm hbn
   go_wp2_with fail
   refine (name_from q1.out hnf.out).mono ?_
   rintro e w2 ⟨rfl, q2, hxl, hW2⟩
   have hO2 := own_pw hO1.out hW2 hB
   have hbn := below_new w2 (.cells #[.string (strV x), .bool ptr] 59)
   have hO3 := Lib.hid (own_below hO2 hbn)
   have hnews : Hid (∀ (q : Nat) u, ([.string (strV x), .bool ptr] : List Value)[q]? = some u → (w2.alloc (.cells #[.string (strV x), .bool ptr] 59)).cell? ((⟨w2.heap.size, 0, none⟩ : Addr).add q) = some u) := Lib.hid (fun q u hu => by
    have hh := Holds.new w2 59 #[.string (strV x), .bool ptr]
    have hadd : (⟨w2.heap.size, 0, none⟩ : Addr).add q = ⟨w2.heap.size, q, none⟩ := by unfold Addr.add; split <;> simp_all
    rw [hadd, hh.cell]
    simpa using hu)
   have hone : Hid (∀ u ∈ ([.string (strV x), .bool ptr] : List Value), u.oneCell' = true) := Lib.hid (by simp; exact ⟨rfl, rfl⟩)
   have hsz : Hid (B ≤ (w2.alloc (.cells #[.string (strV x), .bool ptr] 59)).heap.size) := Lib.hid (Nat.le_trans hBw (Nat.le_trans q2.wr.size hbn.size))
   have q3 := Lib.hid (q2.below hbn)
   clear hO2 hW2 hbn q2
   go_wp2_with
    (at_builtin
     go_loud (refine wpList_append_own_at _ rfl (.tmp 20) (.tmp 25) 23 rfl B 59 iA _ 2 24 rfl hiA hzA0 hzA1 hzA2 rfl (by omega) (.slice A ln c) ln (l.flatMap Vr.cells) rfl (own_len hO3.out hln.out.symm) ⟨w2.heap.size, 0, none⟩ 1 1 [.string (strV x), .bool ptr] rfl rfl hnews.out hone.out (by unfold maxLen; omega) (by omega) hsz.out ?_)
     go_loud (
      intro v5 w5 ho5 hg5 _ _
      have hO7 : Hid (w5.ownsRow B 59 2 v5 (ln + 1) (l.flatMap Vr.cells ++ [.string (strV x), .bool ptr])) := Lib.hid ho5
      have hP7 : Hid (PAt C L s2 w5 ∧ Writes [some L.g, (Value.slice A ln c).ownBlock] w w5) := Lib.hid ⟨q3.out.at_.writes (Writes.of_grown hg5 (M := [(Value.slice A ln c).ownBlock]) (by simp)) (fun k hk => by have := ownK_ge hO3.out (List.mem_singleton.1 hk).symm; omega), (q3.out.wr.more (by simp)).trans (Writes.of_grown hg5 (by simp))⟩
      clear ho5 hg5))
   go_ret
   rw [hF.out]
   refine ⟨_, rfl, hP7.out.1, hP7.out.2, ?_, fun y hy => ?_⟩
   ·rw [List.length_append, List.length_singleton, ← hln.out, List.flatMap_append]
    exact hO7.out
   ·rcases List.mem_append.1 hy with h1 | h1
    ·exact hnm.out y h1
    ·simp at h1; subst h1; exact hxl
 cases hn : namedF C s with
 | false => exact hgoal false hn (fun h => by cases h)
 | true =>
  by_cases hlm : ln < most
  ·exact hgoal true hn (fun _ => hlm)
  ·have hF : Hid (R = (l, failF C 53 s)) := Lib.hid (by rw [hR]; unfold moreV; rw [hn, decide_eq_true (by rw [← hln.out]; omega)]; rfl)
   have hge : (most : Int) ≤ (ln : Int) := by omega
   have hge2 : decide (most ≤ ln) = true := by simp; omega
   replace hn := Lib.hid hn
   clear hgoal hR hx hs2 hlm
   go_enter Try.func16, Try.ntmps16
   go_wp2_with fail
   refine (named_from hM.out hn.out).mono ?_
   rintro e w1 ⟨rfl, q1, hW1⟩
   have hO1 := Lib.hid (own_pw hown.out hW1 hB)
   replace q1 := Lib.hid q1
   clear hW1
   go_wp2_with fail
   refine (fail_from q1.out 53 (by decide) rfl).mono ?_
   rintro e w2 ⟨rfl, q2, hW2⟩
   have hO2 := Lib.hid (own_pw hO1.out hW2 hB)
   replace q2 := Lib.hid q2
   clear hW2
   go_wp2_with fail
   go_ret
   rw [hF.out]
   exact ⟨_, rfl, q2.out.at_, q2.out.wr.more (by simp), hO2.out, hnm.out⟩
end Go.Proofs.Ytpndglghpojjkaa
/- What the tokens of a text are like, plainly; the walks of the small functions that tell bytes apart. -/
namespace Go.Proofs.Ytpndglghpojjkaa
open Go.RowKit Go.Deep

theorem span_le (p : UInt8 → Bool) : ∀ l : List UInt8, span_ p l ≤ l.length
 | [] => Nat.le_refl _
 | c :: r => by
  unfold span_
  have := span_le p r
  split <;> simp <;> omega
theorem span_cons_yes {p : UInt8 → Bool} {c : UInt8} {r : List UInt8} (h : p c = true) : span_ p (c :: r) = span_ p r + 1 := by show (if p c then span_ p r + 1 else 0) = _; rw [if_pos h]
theorem span_cons_no {p : UInt8 → Bool} {c : UInt8} {r : List UInt8} (h : p c = false) : span_ p (c :: r) = 0 := by show (if p c then span_ p r + 1 else 0) = _; rw [if_neg (by rw [h]; simp)]
/-- What is known of one token. -/
def Tok.ok (t : Tok) : Prop := t.at_ ≤ 4096 ∧ t.t.length ≤ 4096 ∧ t.k ≤ 2
theorem lexL_fit : ∀ (f : Nat) (l : List UInt8) (i : Nat) (out : List Tok), i + l.length ≤ 4096 → out.length ≤ i → (∀ t ∈ out, t.ok) → (lexL f l i out).1.length ≤ 4096 ∧ (∀ t ∈ (lexL f l i out).1, t.ok) ∧ (lexL f l i out).2.1 ≤ 4096 ∧ (lexL f l i out).2.2 ≤ 100
 | 0, l, i, out, hi, ho, h => ⟨by unfold lexL; simp only; omega, h, by unfold lexL; simp, by unfold lexL; simp⟩
 | f + 1, l, i, out, hi, ho, h => by
  have snoc : ∀ (t : Tok), t.ok → ∀ x ∈ out ++ [t], x.ok := fun t ht x hx => by
   rcases List.mem_append.1 hx with h1 | h1
   ·exact h x h1
   ·simp at h1; subst h1; exact ht
  have err : ∀ (a b : Nat), a ≤ 4096 → b ≤ 100 → (([] : List Tok), a, b).1.length ≤ 4096 ∧ (∀ t ∈ (([] : List Tok), a, b).1, t.ok) ∧ (([] : List Tok), a, b).2.1 ≤ 4096 ∧ (([] : List Tok), a, b).2.2 ≤ 100 := fun a b h1 h2 => ⟨by simp, by simp, h1, h2⟩
  unfold lexL
  cases l with
  | nil => exact ⟨by simp only; omega, h, by simp, by simp⟩
  | cons c r =>
   simp only [List.length_cons] at hi
   simp only
   have hs := fun p => span_le p (c :: r)
   simp only [List.length_cons] at hs
   split
   ·exact lexL_fit f r (i + 1) out (by omega) (by omega) h
   split
   ·have := hs fun x => x.toNat != 10
    exact lexL_fit f _ _ out (by simp only [List.length_drop, List.length_cons]; omega) (by omega) h
   split
   ·rename_i hl
    split
    ·exact err i 53 (by omega) (by decide)
    ·have h1 := hs fun x => letC x || digC x
     have h2 : 1 ≤ span_ (fun x => letC x || digC x) (c :: r) := by rw [span_cons_yes (by simp [hl])]; omega
     refine lexL_fit f _ _ _ (by simp only [List.length_drop, List.length_cons]; omega) (by rw [List.length_append, List.length_singleton]; omega) (snoc _ ⟨by simp only; omega, ?_, by simp⟩)
     simp only [List.length_take, List.length_cons]
     omega
   split
   ·rename_i hd
    have h1 := hs digC
    have h2 : 1 ≤ span_ digC (c :: r) := by rw [span_cons_yes hd]; omega
    have hgo := lexL_fit f ((c :: r).drop (span_ digC (c :: r))) (i + span_ digC (c :: r)) (out ++ [⟨1, (c :: r).take (span_ digC (c :: r)), i⟩]) (by simp only [List.length_drop, List.length_cons]; omega) (by rw [List.length_append, List.length_singleton]; omega) (snoc _ ⟨by simp only; omega, by simp only [List.length_take, List.length_cons]; omega, by simp⟩)
    split
    ·exact err i 53 (by omega) (by decide)
    split
    all_goals
     split
     ·exact err i 50 (by omega) (by decide)
     ·exact hgo
   split
   ·rename_i h2
    have hr : 1 ≤ r.length := by
     cases r with
     | nil => simp [two_] at h2
     | cons d q => simp
    exact lexL_fit f _ _ _ (by simp only [List.length_drop, List.length_cons]; omega) (by rw [List.length_append, List.length_singleton]; omega) (snoc _ ⟨by simp only; omega, by simp; omega, by simp⟩)
   split
   ·exact lexL_fit f _ _ _ (by omega) (by rw [List.length_append, List.length_singleton]; omega) (snoc _ ⟨by simp only; omega, by simp, by simp⟩)
   ·exact err i 50 (by omega) (by decide)
theorem lexF_fit (l : List UInt8) (he : (lexF l).2.2 = 0) : PC.Fit ⟨(lexF l).1, l.length⟩ := by
 unfold lexF at he ⊢
 split at he
 ·cases he
 ·rename_i h
  rw [if_neg h]
  obtain ⟨h1, h2, _⟩ := lexL_fit (l.length + 1) l 0 [] (by omega) (by simp) (by simp)
  exact ⟨h1, by simp only; omega, fun t ht => (h2 t ht).1, fun t ht => ⟨(h2 t ht).2.1, (h2 t ht).2.2⟩⟩
set_option maxRecDepth 100000 in
set_option maxHeartbeats 1000000 in
theorem digit_any (w : World) (c : UInt8) : Calls Try.prog 39 #[.int .u8 c.toNat] w fun e w' => e = .returned (.bool (digC c)) ∧ w' = w := by
 have hc := c.toNat_lt
 obtain ⟨n, hn⟩ : ∃ n, n = c.toNat := ⟨_, rfl⟩
 unfold digC
 rw [← hn] at hc ⊢
 clear hn
 rcases Nat.lt_or_ge n 48 with h1 | h1
 ·have h2 : (48 ≤ n && n ≤ 57 : Bool) = false := by simp; omega
  have h3 : ¬ (48 : Int) ≤ (n : Int) := by omega
  rw [h2]
  go_enter Try.func39, Try.ntmps39
  go_wp2_with fail
  go_ret
  exact ⟨rfl, rfl⟩
 ·have h3 : (48 : Int) ≤ (n : Int) := by omega
  rcases Nat.lt_or_ge 57 n with h4 | h4
  ·have h2 : (48 ≤ n && n ≤ 57 : Bool) = false := by simp; omega
   have h5 : ¬ (n : Int) ≤ 57 := by omega
   rw [h2]
   go_enter Try.func39, Try.ntmps39
   go_wp2_with fail
   go_ret
   exact ⟨rfl, rfl⟩
  ·have h2 : (48 ≤ n && n ≤ 57 : Bool) = true := by simp; omega
   have h5 : (n : Int) ≤ 57 := by omega
   rw [h2]
   go_enter Try.func39, Try.ntmps39
   go_wp2_with fail
   go_ret
   exact ⟨rfl, rfl⟩
set_option maxRecDepth 100000 in
set_option maxHeartbeats 1000000 in
theorem letter_any (w : World) (c : UInt8) : Calls Try.prog 38 #[.int .u8 c.toNat] w fun e w' => e = .returned (.bool (letC c)) ∧ w' = w := by
 have hc := c.toNat_lt
 obtain ⟨n, hn⟩ : ∃ n, n = c.toNat := ⟨_, rfl⟩
 unfold letC
 rw [← hn] at hc ⊢
 clear hn
 obtain ⟨b, hb⟩ : ∃ b, b = ((97 ≤ n && n ≤ 122) || (65 ≤ n && n ≤ 90) || n == 95 : Bool) := ⟨_, rfl⟩
 rw [← hb]
 rcases (show (97 ≤ n ∧ n ≤ 122) ∨ 122 < n ∨ (65 ≤ n ∧ n ≤ 90) ∨ n < 65 ∨ n = 95 ∨ (90 < n ∧ n < 97 ∧ n ≠ 95) by omega) with h | h | h | h | h | h
 ·have hB : Hid (b = true) := Lib.hid (by rw [hb]; simp; omega)
  have g1 : (97 : Int) ≤ (n : Int) := by omega
  have g2 : (n : Int) ≤ 122 := by omega
  clear hb h
  go_enter Try.func38, Try.ntmps38
  go_wp2_with fail
  go_ret
  rw [hB.out]
  exact ⟨rfl, rfl⟩
 ·have hB : Hid (b = false) := Lib.hid (by rw [hb]; simp; omega)
  have g1 : (97 : Int) ≤ (n : Int) := by omega
  have g2 : ¬ (n : Int) ≤ 122 := by omega
  have g3 : (65 : Int) ≤ (n : Int) := by omega
  have g4 : ¬ (n : Int) ≤ 90 := by omega
  have g5 : ((n : Int) == 95) = false := by simp; omega
  clear hb h
  go_enter Try.func38, Try.ntmps38
  go_wp2_with fail
  go_ret
  rw [hB.out]
  exact ⟨rfl, rfl⟩
 ·have hB : Hid (b = true) := Lib.hid (by rw [hb]; simp; omega)
  have g1 : ¬ (97 : Int) ≤ (n : Int) := by omega
  have g3 : (65 : Int) ≤ (n : Int) := by omega
  have g4 : (n : Int) ≤ 90 := by omega
  clear hb h
  go_enter Try.func38, Try.ntmps38
  go_wp2_with fail
  go_ret
  rw [hB.out]
  exact ⟨rfl, rfl⟩
 ·have hB : Hid (b = false) := Lib.hid (by rw [hb]; simp; omega)
  have g1 : ¬ (97 : Int) ≤ (n : Int) := by omega
  have g3 : ¬ (65 : Int) ≤ (n : Int) := by omega
  have g5 : ((n : Int) == 95) = false := by simp; omega
  clear hb h
  go_enter Try.func38, Try.ntmps38
  go_wp2_with fail
  go_ret
  rw [hB.out]
  exact ⟨rfl, rfl⟩
 ·have hB : Hid (b = true) := Lib.hid (by rw [hb]; simp; omega)
  have g1 : ¬ (97 : Int) ≤ (n : Int) := by omega
  have g3 : (65 : Int) ≤ (n : Int) := by omega
  have g4 : ¬ (n : Int) ≤ 90 := by omega
  have g5 : ((n : Int) == 95) = true := by simp; omega
  clear hb h
  go_enter Try.func38, Try.ntmps38
  go_wp2_with fail
  go_ret
  rw [hB.out]
  exact ⟨rfl, rfl⟩
 ·have hB : Hid (b = false) := Lib.hid (by rw [hb]; simp; omega)
  have g1 : ¬ (97 : Int) ≤ (n : Int) := by omega
  have g3 : (65 : Int) ≤ (n : Int) := by omega
  have g4 : ¬ (n : Int) ≤ 90 := by omega
  have g5 : ((n : Int) == 95) = false := by simp; omega
  clear hb h
  go_enter Try.func38, Try.ntmps38
  go_wp2_with fail
  go_ret
  rw [hB.out]
  exact ⟨rfl, rfl⟩
set_option maxRecDepth 100000 in
set_option maxHeartbeats 1000000 in
theorem one_any (w : World) (s : ByteArray) (c : UInt8) (hs : s.size ≤ 100) : Calls Try.prog 40 #[.string s, .int .u8 c.toNat] w fun e w' => e = .returned (.bool (s.data.toList.contains c)) ∧ w' = w := by
 obtain ⟨b, hb⟩ : ∃ b, b = s.data.toList.contains c := ⟨_, rfl⟩
 rw [← hb]
 replace hb := Lib.hid hb
 have hc := c.toNat_lt
 go_enter Try.func40, Try.ntmps40
 go_wp2_with fail
 go_loop [5] (fun i => ∃ k : Nat, k ≤ s.size ∧ i = .int .i64 k ∧ Hid ((s.data.toList.take k).contains c = false)) (fun i => s.size - (intOf i).toNat)
 case atStart => exact ⟨0, Nat.zero_le _, rfl, Lib.hid rfl⟩
 case round =>
  obtain ⟨k, hk, rfl, hT⟩ := hrel
  by_cases hlt : k < s.size
  ·have hsn := take_snocB s k hlt
   obtain ⟨x, hx⟩ : ∃ x, x = s[k] := ⟨_, rfl⟩
   have hmem : Hid (x ∈ s.data.toList) := Lib.hid (by rw [hx]; exact List.getElem_mem (by simpa using hlt))
   rw [← hx] at hsn
   have hx3 := x.toNat_lt
   by_cases hxc : x = c
   ·have hq : (((s[k].toNat : Int)) == ((c.toNat : Int))) = true := by rw [← hx, hxc]; simp
    have hB : Hid (b = true) := Lib.hid (by rw [hb.out, ← hxc]; simpa using hmem.out)
    clear hx hsn hmem hxc
    go_wp2_with fail
    go_ret
    rw [hB.out]
    exact ⟨rfl, rfl⟩
   ·have hq : (((s[k].toNat : Int)) == ((c.toNat : Int))) = false := by rw [← hx]; simp; intro h; exact hxc (UInt8.toNat_inj.1 (by omega))
    have hT2 : Hid ((s.data.toList.take (k + 1)).contains c = false) := Lib.hid (by
     have := hT.out
     rw [hsn]
     simp only [List.contains_append, this, Bool.false_or]
     simpa using fun h => hxc h.symm)
    clear hx hsn hmem hT hxc
    go_wp2_with fail
    go_round
    case rel => exact ⟨k + 1, by omega, by go_num, hT2⟩
    case measure => simp [intOf]; omega
  ·have hB : Hid (b = false) := Lib.hid (by
    have := hT.out
    rw [List.take_of_length_le (by simp; omega)] at this
    rw [hb.out, this])
   clear hT
   go_wp2_with fail
   go_ret
   rw [hB.out]
   exact ⟨rfl, rfl⟩
end Go.Proofs.Ytpndglghpojjkaa
/- The walk of Tokens. -/
namespace Go.Proofs.Ytpndglghpojjkaa
open Go.RowKit Go.Deep

/-- The loop over a text's bytes: how it stands. -/
structure TokL (s : ByteArray) (R : List Tok × Nat × Nat) (f i : Nat) (out : List Tok) (v : Value) (w0 w : World) : Prop where
 eq : lexL f (s.data.toList.drop i) i out = R
 fuel : s.size < i + f
 len : out.length ≤ i
 own : w.ownsRow w0.heap.size 84 3 v out.length (out.flatMap Tok.cells)
 bel : Below w0.heap.size w0 w
def TokPost (R : List Tok × Nat × Nat) (w : World) (e : Ending) (w' : World) : Prop :=
 ∃ A c, e = .returned (.tuple #[.slice A R.1.length c, .int .i64 R.2.1, .int .i64 R.2.2]) ∧ Row w' w'.heap.size A (R.1.flatMap Tok.cells) ∧ R.1.length ≤ c ∧ Below w.heap.size w w'
theorem drop_cons (s : ByteArray) (i : Nat) (h : i < s.size) : s.data.toList.drop i = s[i] :: s.data.toList.drop (i + 1) := by
 rw [List.drop_eq_getElem_cons (by simpa using h)]
 rfl
theorem TokL.go_ {s : ByteArray} {R : List Tok × Nat × Nat} {f i : Nat} {out : List Tok} {v : Value} {w0 w : World} (h : TokL s R f i out v w0 w) (hi : i < s.size) :
  ∃ f', f = f' + 1 ∧ lexL (f' + 1) (s[i] :: s.data.toList.drop (i + 1)) i out = R := by
 have hf := h.fuel
 cases f with
 | zero => omega
 | succ f => exact ⟨f, rfl, by rw [← drop_cons s i hi]; exact h.eq⟩
theorem lexL_nil (f i : Nat) (out : List Tok) : lexL f [] i out = (out, 0, 0) := by
 cases f with
 | zero => unfold lexL; rfl
 | succ f => unfold lexL; rfl
theorem lexL_ws {f i : Nat} {c : UInt8} {r : List UInt8} {out : List Tok} (h : wsC c = true) : lexL (f + 1) (c :: r) i out = lexL f r (i + 1) out := by
 conv => lhs; unfold lexL
 simp only
 rw [if_pos h]
theorem lexL_note {f i : Nat} {c : UInt8} {r : List UInt8} {out : List Tok} (h : wsC c = false) (h2 : c.toNat = 35) : lexL (f + 1) (c :: r) i out = lexL f ((c :: r).drop (span_ (fun x => x.toNat != 10) (c :: r))) (i + span_ (fun x => x.toNat != 10) (c :: r)) out := by
 conv => lhs; unfold lexL
 simp only
 rw [if_neg (by rw [h]; simp), if_pos h2]
theorem lexL_name {f i : Nat} {c : UInt8} {r : List UInt8} {out : List Tok} (h : wsC c = false) (h2 : c.toNat ≠ 35) (h3 : letC c = true) : lexL (f + 1) (c :: r) i out =
  if 32 < span_ (fun x => letC x || digC x) (c :: r) then ([], i, 53)
  else lexL f ((c :: r).drop (span_ (fun x => letC x || digC x) (c :: r))) (i + span_ (fun x => letC x || digC x) (c :: r)) (out ++ [⟨0, (c :: r).take (span_ (fun x => letC x || digC x) (c :: r)), i⟩]) := by
 conv => lhs; unfold lexL
 simp only
 rw [if_neg (by rw [h]; simp), if_neg h2, if_pos h3]
theorem lexL_num {f i : Nat} {c : UInt8} {r : List UInt8} {out : List Tok} (h : wsC c = false) (h2 : c.toNat ≠ 35) (h3 : letC c = false) (h4 : digC c = true) : lexL (f + 1) (c :: r) i out =
  if (numG ((c :: r).take (span_ digC (c :: r))) 0 false).2 || 9223372036854775807 < (numG ((c :: r).take (span_ digC (c :: r))) 0 false).1 then ([], i, 53)
  else if (match (c :: r).drop (span_ digC (c :: r)) with | [] => false | d :: _ => letC d) || (c.toNat == 48 && 1 < span_ digC (c :: r)) then ([], i, 50)
  else lexL f ((c :: r).drop (span_ digC (c :: r))) (i + span_ digC (c :: r)) (out ++ [⟨1, (c :: r).take (span_ digC (c :: r)), i⟩]) := by
 conv => lhs; unfold lexL
 simp only
 rw [if_neg (by rw [h]; simp), if_neg h2, if_neg (by rw [h3]; simp), if_pos h4]
 rfl
theorem lexL_sign {f i : Nat} {c : UInt8} {r : List UInt8} {out : List Tok} (h : wsC c = false) (h2 : c.toNat ≠ 35) (h3 : letC c = false) (h4 : digC c = false) : lexL (f + 1) (c :: r) i out =
  if two_ (c :: r) then lexL f ((c :: r).drop 2) (i + 2) (out ++ [⟨2, (c :: r).take 2, i⟩])
  else if signs1.contains c then lexL f r (i + 1) (out ++ [⟨2, [c], i⟩]) else ([], i, 50) := by
 conv => lhs; unfold lexL
 simp only
 rw [if_neg (by rw [h]; simp), if_neg h2, if_neg (by rw [h3]; simp), if_neg (by rw [h4]; simp)]
theorem extract_strV (s : ByteArray) (a b : Nat) : s.extract a b = strV ((s.data.toList.drop a).take (b - a)) := by
 unfold strV
 apply ByteArray.ext
 rw [ByteArray.data_extract]
 apply Array.toList_inj.1
 simp
theorem Try.infoTok : (Try.prog.info? 84).map (fun i => (i.zero, i.size, i.bytes)) = some (some (.agg #[.int .i64 0, .string ⟨#[]⟩, .int .i64 0]), 3, 32) := by kernel_rfl
end Go.Proofs.Ytpndglghpojjkaa
/- The walk of Tokens: its great loop, case by case. -/
namespace Go.Proofs.Ytpndglghpojjkaa
open Go.RowKit Go.Deep

def firstLoop : Code → Option Code
 | .loop c => some c
 | .seq a b => match firstLoop a with
  | some c => some c
  | none => firstLoop b
 | .block _ c => firstLoop c
 | .scope c => firstLoop c
 | .cond _ a b => match firstLoop a with
  | some c => some c
  | none => firstLoop b
 | _ => none
theorem letter_at (w : World) (c : UInt8) : Calls Try.prog 38 #[.int .u8 c.toNat] w fun e w' => e = .returned (.bool (letC c)) ∧ w = w' := (letter_any w c).mono fun _ _ h => ⟨h.1, h.2.symm⟩
theorem digit_at (w : World) (c : UInt8) : Calls Try.prog 39 #[.int .u8 c.toNat] w fun e w' => e = .returned (.bool (digC c)) ∧ w = w' := (digit_any w c).mono fun _ _ h => ⟨h.1, h.2.symm⟩
noncomputable def tokBody : Code := ((Try.f12.body.bind firstLoop).getD .skip)
set_option maxRecDepth 1000000 in
def WI (s : ByteArray) (R : List Tok × Nat × Nat) (w0 : World) (a : Act) (w : World) : Prop :=
 ∃ ov iv u7 u8 u9 u10 u11 u12 u13 u14 u15 u16 u17 u18 u19 u20 u21 u22 u23 u24 u25 u26 u27 u28 u29 u30 u31 u32 u33 u34 u35 u36 u37 u38 u39 u40 u41 u42 u43 u44 u45 u46 u47 u48 u49 u50 u51 u52 u53 u54 u55 u56 u57 u58 u59 u60 u61 u62 u63 u64 u65 u66 u67 u68 u69 u70 u71 u72 u73 u74 u75 u76 u77 u78 u79 u80 u81 u82 u83 u84 u85 u86 u87 u88 u89 u90 u91 u92 u93 u94 u95 u96 u97 u98 u99 u100 u101 u102 u103 u104 u105 u106 u107 u108 u109 u110 u111 u112 u113 u114 u115 u116 u117 u118 u119 u120 u121 u122 u123 u124 u125 u126 u127 u128 u129 u130 u131 u132 u133 u134 u135 u136 u137 u138 u139 u140 u141 u142 u143 u144 u145 u146 u147 u148 u149 u150 u151 u152 u153 u154 u155 u156 u157 u158 u159 u160 u161 u162 u163 u164 u165 u166 u167 u168 u169 u170 u171 u172 u173 u174 u175 u176 u177 u178 u179 u180 u181 u182 u183 u184 u185 u186 u187 u188 u189 u190 u191 u192 u193 u194 u195 u196 u197 u198 u199 u200 u201 u202 u203 u204 u205 u206 u207 u208 u209 u210 u211 u212 u213 u214 u215 u216 u217 u218 u219 u220 u221 u222 u223 u224 u225 u226 u227 u228 : Value, (∃ (f i : Nat) (out : List Tok), i ≤ s.size ∧ iv = .int .i64 i ∧ TokL s R f i out ov w0 w) ∧ a = ⟨#[.string s, undef, .slice none 0 0, .int .i64 0, .int .i64 0, ov, iv, u7, u8, u9, u10, u11, u12, u13, u14, u15, u16, u17, u18, u19, u20, u21, u22, u23, u24, u25, u26, u27, u28, u29, u30, u31, u32, u33, u34, u35, u36, u37, u38, u39, u40, u41, u42, u43, u44, u45, u46, u47, u48, u49, u50, u51, u52, u53, u54, u55, u56, u57, u58, u59, u60, u61, u62, u63, u64, u65, u66, u67, u68, u69, u70, u71, u72, u73, u74, u75, u76, u77, u78, u79, u80, u81, u82, u83, u84, u85, u86, u87, u88, u89, u90, u91, u92, u93, u94, u95, u96, u97, u98, u99, u100, u101, u102, u103, u104, u105, u106, u107, u108, u109, u110, u111, u112, u113, u114, u115, u116, u117, u118, u119, u120, u121, u122, u123, u124, u125, u126, u127, u128, u129, u130, u131, u132, u133, u134, u135, u136, u137, u138, u139, u140, u141, u142, u143, u144, u145, u146, u147, u148, u149, u150, u151, u152, u153, u154, u155, u156, u157, u158, u159, u160, u161, u162, u163, u164, u165, u166, u167, u168, u169, u170, u171, u172, u173, u174, u175, u176, u177, u178, u179, u180, u181, u182, u183, u184, u185, u186, u187, u188, u189, u190, u191, u192, u193, u194, u195, u196, u197, u198, u199, u200, u201, u202, u203, u204, u205, u206, u207, u208, u209, u210, u211, u212, u213, u214, u215, u216, u217, u218, u219, u220, u221, u222, u223, u224, u225, u226, u227, u228], []⟩
set_option maxRecDepth 1000000 in
def WE (s : ByteArray) (R : List Tok × Nat × Nat) (w0 : World) (a : Act) (w : World) : Prop :=
 ∃ (at_ e : Nat) (ov iv u7 u8 u9 u10 u11 u12 u13 u14 u15 u16 u17 u18 u19 u20 u21 u22 u23 u24 u25 u26 u27 u28 u29 u30 u31 u32 u33 u34 u35 u36 u37 u38 u39 u40 u41 u42 u43 u44 u45 u46 u47 u48 u49 u50 u51 u52 u53 u54 u55 u56 u57 u58 u59 u60 u61 u62 u63 u64 u65 u66 u67 u68 u69 u70 u71 u72 u73 u74 u75 u76 u77 u78 u79 u80 u81 u82 u83 u84 u85 u86 u87 u88 u89 u90 u91 u92 u93 u94 u95 u96 u97 u98 u99 u100 u101 u102 u103 u104 u105 u106 u107 u108 u109 u110 u111 u112 u113 u114 u115 u116 u117 u118 u119 u120 u121 u122 u123 u124 u125 u126 u127 u128 u129 u130 u131 u132 u133 u134 u135 u136 u137 u138 u139 u140 u141 u142 u143 u144 u145 u146 u147 u148 u149 u150 u151 u152 u153 u154 u155 u156 u157 u158 u159 u160 u161 u162 u163 u164 u165 u166 u167 u168 u169 u170 u171 u172 u173 u174 u175 u176 u177 u178 u179 u180 u181 u182 u183 u184 u185 u186 u187 u188 u189 u190 u191 u192 u193 u194 u195 u196 u197 u198 u199 u200 u201 u202 u203 u204 u205 u206 u207 u208 u209 u210 u211 u212 u213 u214 u215 u216 u217 u218 u219 u220 u221 u222 u223 u224 u225 u226 u227 u228 : Value), (R = ([], at_, e) ∧ Below w0.heap.size w0 w) ∧ a = ⟨#[.string s, undef, .slice none 0 0, .int .i64 at_, .int .i64 e, ov, iv, u7, u8, u9, u10, u11, u12, u13, u14, u15, u16, u17, u18, u19, u20, u21, u22, u23, u24, u25, u26, u27, u28, u29, u30, u31, u32, u33, u34, u35, u36, u37, u38, u39, u40, u41, u42, u43, u44, u45, u46, u47, u48, u49, u50, u51, u52, u53, u54, u55, u56, u57, u58, u59, u60, u61, u62, u63, u64, u65, u66, u67, u68, u69, u70, u71, u72, u73, u74, u75, u76, u77, u78, u79, u80, u81, u82, u83, u84, u85, u86, u87, u88, u89, u90, u91, u92, u93, u94, u95, u96, u97, u98, u99, u100, u101, u102, u103, u104, u105, u106, u107, u108, u109, u110, u111, u112, u113, u114, u115, u116, u117, u118, u119, u120, u121, u122, u123, u124, u125, u126, u127, u128, u129, u130, u131, u132, u133, u134, u135, u136, u137, u138, u139, u140, u141, u142, u143, u144, u145, u146, u147, u148, u149, u150, u151, u152, u153, u154, u155, u156, u157, u158, u159, u160, u161, u162, u163, u164, u165, u166, u167, u168, u169, u170, u171, u172, u173, u174, u175, u176, u177, u178, u179, u180, u181, u182, u183, u184, u185, u186, u187, u188, u189, u190, u191, u192, u193, u194, u195, u196, u197, u198, u199, u200, u201, u202, u203, u204, u205, u206, u207, u208, u209, u210, u211, u212, u213, u214, u215, u216, u217, u218, u219, u220, u221, u222, u223, u224, u225, u226, u227, u228], []⟩
set_option maxRecDepth 1000000 in
def WX (s : ByteArray) (R : List Tok × Nat × Nat) (w0 : World) (a : Act) (w : World) : Prop :=
 ∃ (out : List Tok) (ov iv u7 u8 u9 u10 u11 u12 u13 u14 u15 u16 u17 u18 u19 u20 u21 u22 u23 u24 u25 u26 u27 u28 u29 u30 u31 u32 u33 u34 u35 u36 u37 u38 u39 u40 u41 u42 u43 u44 u45 u46 u47 u48 u49 u50 u51 u52 u53 u54 u55 u56 u57 u58 u59 u60 u61 u62 u63 u64 u65 u66 u67 u68 u69 u70 u71 u72 u73 u74 u75 u76 u77 u78 u79 u80 u81 u82 u83 u84 u85 u86 u87 u88 u89 u90 u91 u92 u93 u94 u95 u96 u97 u98 u99 u100 u101 u102 u103 u104 u105 u106 u107 u108 u109 u110 u111 u112 u113 u114 u115 u116 u117 u118 u119 u120 u121 u122 u123 u124 u125 u126 u127 u128 u129 u130 u131 u132 u133 u134 u135 u136 u137 u138 u139 u140 u141 u142 u143 u144 u145 u146 u147 u148 u149 u150 u151 u152 u153 u154 u155 u156 u157 u158 u159 u160 u161 u162 u163 u164 u165 u166 u167 u168 u169 u170 u171 u172 u173 u174 u175 u176 u177 u178 u179 u180 u181 u182 u183 u184 u185 u186 u187 u188 u189 u190 u191 u192 u193 u194 u195 u196 u197 u198 u199 u200 u201 u202 u203 u204 u205 u206 u207 u208 u209 u210 u211 u212 u213 u214 u215 u216 u217 u218 u219 u220 u221 u222 u223 u224 u225 u226 u227 u228 : Value), (R = (out, 0, 0) ∧ w.ownsRow w0.heap.size 84 3 ov out.length (out.flatMap Tok.cells) ∧ Below w0.heap.size w0 w) ∧ a = ⟨#[.string s, undef, .slice none 0 0, .int .i64 0, .int .i64 0, ov, iv, u7, u8, u9, u10, u11, u12, u13, u14, u15, u16, u17, u18, u19, u20, u21, u22, u23, u24, u25, u26, u27, u28, u29, u30, u31, u32, u33, u34, u35, u36, u37, u38, u39, u40, u41, u42, u43, u44, u45, u46, u47, u48, u49, u50, u51, u52, u53, u54, u55, u56, u57, u58, u59, u60, u61, u62, u63, u64, u65, u66, u67, u68, u69, u70, u71, u72, u73, u74, u75, u76, u77, u78, u79, u80, u81, u82, u83, u84, u85, u86, u87, u88, u89, u90, u91, u92, u93, u94, u95, u96, u97, u98, u99, u100, u101, u102, u103, u104, u105, u106, u107, u108, u109, u110, u111, u112, u113, u114, u115, u116, u117, u118, u119, u120, u121, u122, u123, u124, u125, u126, u127, u128, u129, u130, u131, u132, u133, u134, u135, u136, u137, u138, u139, u140, u141, u142, u143, u144, u145, u146, u147, u148, u149, u150, u151, u152, u153, u154, u155, u156, u157, u158, u159, u160, u161, u162, u163, u164, u165, u166, u167, u168, u169, u170, u171, u172, u173, u174, u175, u176, u177, u178, u179, u180, u181, u182, u183, u184, u185, u186, u187, u188, u189, u190, u191, u192, u193, u194, u195, u196, u197, u198, u199, u200, u201, u202, u203, u204, u205, u206, u207, u208, u209, u210, u211, u212, u213, u214, u215, u216, u217, u218, u219, u220, u221, u222, u223, u224, u225, u226, u227, u228], []⟩
def Wmu (s : ByteArray) (a : Act) (_w : World) : Nat := s.size - (intOf (a.tmps.getD 6 undef)).toNat
set_option maxRecDepth 1000000 in
set_option maxHeartbeats 8000000 in
theorem tok_ws (s : ByteArray) (R : List Tok × Nat × Nat) (w0 w : World) (Q0 : Exit → Act → World → Prop) (f i : Nat) (out : List Tok) (ov u7 u8 u9 u10 u11 u12 u13 u14 u15 u16 u17 u18 u19 u20 u21 u22 u23 u24 u25 u26 u27 u28 u29 u30 u31 u32 u33 u34 u35 u36 u37 u38 u39 u40 u41 u42 u43 u44 u45 u46 u47 u48 u49 u50 u51 u52 u53 u54 u55 u56 u57 u58 u59 u60 u61 u62 u63 u64 u65 u66 u67 u68 u69 u70 u71 u72 u73 u74 u75 u76 u77 u78 u79 u80 u81 u82 u83 u84 u85 u86 u87 u88 u89 u90 u91 u92 u93 u94 u95 u96 u97 u98 u99 u100 u101 u102 u103 u104 u105 u106 u107 u108 u109 u110 u111 u112 u113 u114 u115 u116 u117 u118 u119 u120 u121 u122 u123 u124 u125 u126 u127 u128 u129 u130 u131 u132 u133 u134 u135 u136 u137 u138 u139 u140 u141 u142 u143 u144 u145 u146 u147 u148 u149 u150 u151 u152 u153 u154 u155 u156 u157 u158 u159 u160 u161 u162 u163 u164 u165 u166 u167 u168 u169 u170 u171 u172 u173 u174 u175 u176 u177 u178 u179 u180 u181 u182 u183 u184 u185 u186 u187 u188 u189 u190 u191 u192 u193 u194 u195 u196 u197 u198 u199 u200 u201 u202 u203 u204 u205 u206 u207 u208 u209 u210 u211 u212 u213 u214 u215 u216 u217 u218 u219 u220 u221 u222 u223 u224 u225 u226 u227 u228 : Value) (hs : s.size ≤ 4096) (hL : Hid (TokL s R f i out ov w0 w)) (hlt : i < s.size) (hws : wsC s[i] = true) :
  Code.wp Try.prog tokBody (Exit.then (fun a2 w2 => WI s R w0 a2 w2 ∧ Wmu s a2 w2 < Wmu s ⟨#[.string s, undef, .slice none 0 0, .int .i64 0, .int .i64 0, ov, (.int .i64 i), u7, u8, u9, u10, u11, u12, u13, u14, u15, u16, u17, u18, u19, u20, u21, u22, u23, u24, u25, u26, u27, u28, u29, u30, u31, u32, u33, u34, u35, u36, u37, u38, u39, u40, u41, u42, u43, u44, u45, u46, u47, u48, u49, u50, u51, u52, u53, u54, u55, u56, u57, u58, u59, u60, u61, u62, u63, u64, u65, u66, u67, u68, u69, u70, u71, u72, u73, u74, u75, u76, u77, u78, u79, u80, u81, u82, u83, u84, u85, u86, u87, u88, u89, u90, u91, u92, u93, u94, u95, u96, u97, u98, u99, u100, u101, u102, u103, u104, u105, u106, u107, u108, u109, u110, u111, u112, u113, u114, u115, u116, u117, u118, u119, u120, u121, u122, u123, u124, u125, u126, u127, u128, u129, u130, u131, u132, u133, u134, u135, u136, u137, u138, u139, u140, u141, u142, u143, u144, u145, u146, u147, u148, u149, u150, u151, u152, u153, u154, u155, u156, u157, u158, u159, u160, u161, u162, u163, u164, u165, u166, u167, u168, u169, u170, u171, u172, u173, u174, u175, u176, u177, u178, u179, u180, u181, u182, u183, u184, u185, u186, u187, u188, u189, u190, u191, u192, u193, u194, u195, u196, u197, u198, u199, u200, u201, u202, u203, u204, u205, u206, u207, u208, u209, u210, u211, u212, u213, u214, u215, u216, u217, u218, u219, u220, u221, u222, u223, u224, u225, u226, u227, u228], []⟩ w) Q0) ⟨#[.string s, undef, .slice none 0 0, .int .i64 0, .int .i64 0, ov, (.int .i64 i), u7, u8, u9, u10, u11, u12, u13, u14, u15, u16, u17, u18, u19, u20, u21, u22, u23, u24, u25, u26, u27, u28, u29, u30, u31, u32, u33, u34, u35, u36, u37, u38, u39, u40, u41, u42, u43, u44, u45, u46, u47, u48, u49, u50, u51, u52, u53, u54, u55, u56, u57, u58, u59, u60, u61, u62, u63, u64, u65, u66, u67, u68, u69, u70, u71, u72, u73, u74, u75, u76, u77, u78, u79, u80, u81, u82, u83, u84, u85, u86, u87, u88, u89, u90, u91, u92, u93, u94, u95, u96, u97, u98, u99, u100, u101, u102, u103, u104, u105, u106, u107, u108, u109, u110, u111, u112, u113, u114, u115, u116, u117, u118, u119, u120, u121, u122, u123, u124, u125, u126, u127, u128, u129, u130, u131, u132, u133, u134, u135, u136, u137, u138, u139, u140, u141, u142, u143, u144, u145, u146, u147, u148, u149, u150, u151, u152, u153, u154, u155, u156, u157, u158, u159, u160, u161, u162, u163, u164, u165, u166, u167, u168, u169, u170, u171, u172, u173, u174, u175, u176, u177, u178, u179, u180, u181, u182, u183, u184, u185, u186, u187, u188, u189, u190, u191, u192, u193, u194, u195, u196, u197, u198, u199, u200, u201, u202, u203, u204, u205, u206, u207, u208, u209, u210, u211, u212, u213, u214, u215, u216, u217, u218, u219, u220, u221, u222, u223, u224, u225, u226, u227, u228], []⟩ w := by
 conv => arg 2; whnf
 obtain ⟨f', rfl, hgo⟩ := hL.out.go_ hlt
 obtain ⟨c, hc⟩ : ∃ c, s[i] = c := ⟨_, rfl⟩
 rw [hc] at hgo
 have hc3 := c.toNat_lt
 have hdr := drop_cons s i hlt
 rw [hc] at hdr
 replace hdr := Lib.hid hdr
 have hfu := hL.out.fuel
 have hlo := hL.out.len
 have hiw : IntKind.i64.wrap ((i : Int) + 1) = ((i + 1 : Nat) : Int) := by rw [IntWalk.i64_in _ (by omega)]; omega
 rw [hc] at hws
 have hL2 : Hid (TokL s R f' (i + 1) out ov w0 w) := Lib.hid ⟨by rw [← hgo]; exact (lexL_ws hws).symm, by omega, by omega, hL.out.own, hL.out.bel⟩
 have hcs : c.toNat = 32 ∨ c.toNat = 9 ∨ c.toNat = 13 ∨ c.toNat = 10 := by unfold wsC at hws; simpa [or_assoc] using hws
 replace hgo := Lib.hid hgo
 clear hws
 obtain ⟨cn, hcn⟩ : ∃ n, c.toNat = n := ⟨_, rfl⟩
 rw [hcn] at hcs hc3
 rcases hcs with rfl | rfl | rfl | rfl
 all_goals
  go_wp2_with fail
  refine ⟨?_, by simp [Wmu, intOf]; omega⟩
  unfold WI
  refine ⟨_, _, _, _, _, _, _, _, _, _, _, _, _, _, _, _, _, _, _, _, _, _, _, _, _, _, _, _, _, _, _, _, _, _, _, _, _, _, _, _, _, _, _, _, _, _, _, _, _, _, _, _, _, _, _, _, _, _, _, _, _, _, _, _, _, _, _, _, _, _, _, _, _, _, _, _, _, _, _, _, _, _, _, _, _, _, _, _, _, _, _, _, _, _, _, _, _, _, _, _, _, _, _, _, _, _, _, _, _, _, _, _, _, _, _, _, _, _, _, _, _, _, _, _, _, _, _, _, _, _, _, _, _, _, _, _, _, _, _, _, _, _, _, _, _, _, _, _, _, _, _, _, _, _, _, _, _, _, _, _, _, _, _, _, _, _, _, _, _, _, _, _, _, _, _, _, _, _, _, _, _, _, _, _, _, _, _, _, _, _, _, _, _, _, _, _, _, _, _, _, _, _, _, _, _, _, _, _, _, _, _, _, _, _, _, _, _, _, _, _, _, _, _, _, ?_, rfl⟩
  exact ⟨f', i + 1, out, by omega, by simp, hL2.out⟩
set_option maxRecDepth 1000000 in
set_option maxHeartbeats 8000000 in
theorem tok_note (s : ByteArray) (R : List Tok × Nat × Nat) (w0 w : World) (Q0 : Exit → Act → World → Prop) (f i : Nat) (out : List Tok) (ov u7 u8 u9 u10 u11 u12 u13 u14 u15 u16 u17 u18 u19 u20 u21 u22 u23 u24 u25 u26 u27 u28 u29 u30 u31 u32 u33 u34 u35 u36 u37 u38 u39 u40 u41 u42 u43 u44 u45 u46 u47 u48 u49 u50 u51 u52 u53 u54 u55 u56 u57 u58 u59 u60 u61 u62 u63 u64 u65 u66 u67 u68 u69 u70 u71 u72 u73 u74 u75 u76 u77 u78 u79 u80 u81 u82 u83 u84 u85 u86 u87 u88 u89 u90 u91 u92 u93 u94 u95 u96 u97 u98 u99 u100 u101 u102 u103 u104 u105 u106 u107 u108 u109 u110 u111 u112 u113 u114 u115 u116 u117 u118 u119 u120 u121 u122 u123 u124 u125 u126 u127 u128 u129 u130 u131 u132 u133 u134 u135 u136 u137 u138 u139 u140 u141 u142 u143 u144 u145 u146 u147 u148 u149 u150 u151 u152 u153 u154 u155 u156 u157 u158 u159 u160 u161 u162 u163 u164 u165 u166 u167 u168 u169 u170 u171 u172 u173 u174 u175 u176 u177 u178 u179 u180 u181 u182 u183 u184 u185 u186 u187 u188 u189 u190 u191 u192 u193 u194 u195 u196 u197 u198 u199 u200 u201 u202 u203 u204 u205 u206 u207 u208 u209 u210 u211 u212 u213 u214 u215 u216 u217 u218 u219 u220 u221 u222 u223 u224 u225 u226 u227 u228 : Value) (hs : s.size ≤ 4096) (hL : Hid (TokL s R f i out ov w0 w)) (hlt : i < s.size) (hws : wsC s[i] = false) (h35 : s[i].toNat = 35) :
  Code.wp Try.prog tokBody (Exit.then (fun a2 w2 => WI s R w0 a2 w2 ∧ Wmu s a2 w2 < Wmu s ⟨#[.string s, undef, .slice none 0 0, .int .i64 0, .int .i64 0, ov, (.int .i64 i), u7, u8, u9, u10, u11, u12, u13, u14, u15, u16, u17, u18, u19, u20, u21, u22, u23, u24, u25, u26, u27, u28, u29, u30, u31, u32, u33, u34, u35, u36, u37, u38, u39, u40, u41, u42, u43, u44, u45, u46, u47, u48, u49, u50, u51, u52, u53, u54, u55, u56, u57, u58, u59, u60, u61, u62, u63, u64, u65, u66, u67, u68, u69, u70, u71, u72, u73, u74, u75, u76, u77, u78, u79, u80, u81, u82, u83, u84, u85, u86, u87, u88, u89, u90, u91, u92, u93, u94, u95, u96, u97, u98, u99, u100, u101, u102, u103, u104, u105, u106, u107, u108, u109, u110, u111, u112, u113, u114, u115, u116, u117, u118, u119, u120, u121, u122, u123, u124, u125, u126, u127, u128, u129, u130, u131, u132, u133, u134, u135, u136, u137, u138, u139, u140, u141, u142, u143, u144, u145, u146, u147, u148, u149, u150, u151, u152, u153, u154, u155, u156, u157, u158, u159, u160, u161, u162, u163, u164, u165, u166, u167, u168, u169, u170, u171, u172, u173, u174, u175, u176, u177, u178, u179, u180, u181, u182, u183, u184, u185, u186, u187, u188, u189, u190, u191, u192, u193, u194, u195, u196, u197, u198, u199, u200, u201, u202, u203, u204, u205, u206, u207, u208, u209, u210, u211, u212, u213, u214, u215, u216, u217, u218, u219, u220, u221, u222, u223, u224, u225, u226, u227, u228], []⟩ w) Q0) ⟨#[.string s, undef, .slice none 0 0, .int .i64 0, .int .i64 0, ov, (.int .i64 i), u7, u8, u9, u10, u11, u12, u13, u14, u15, u16, u17, u18, u19, u20, u21, u22, u23, u24, u25, u26, u27, u28, u29, u30, u31, u32, u33, u34, u35, u36, u37, u38, u39, u40, u41, u42, u43, u44, u45, u46, u47, u48, u49, u50, u51, u52, u53, u54, u55, u56, u57, u58, u59, u60, u61, u62, u63, u64, u65, u66, u67, u68, u69, u70, u71, u72, u73, u74, u75, u76, u77, u78, u79, u80, u81, u82, u83, u84, u85, u86, u87, u88, u89, u90, u91, u92, u93, u94, u95, u96, u97, u98, u99, u100, u101, u102, u103, u104, u105, u106, u107, u108, u109, u110, u111, u112, u113, u114, u115, u116, u117, u118, u119, u120, u121, u122, u123, u124, u125, u126, u127, u128, u129, u130, u131, u132, u133, u134, u135, u136, u137, u138, u139, u140, u141, u142, u143, u144, u145, u146, u147, u148, u149, u150, u151, u152, u153, u154, u155, u156, u157, u158, u159, u160, u161, u162, u163, u164, u165, u166, u167, u168, u169, u170, u171, u172, u173, u174, u175, u176, u177, u178, u179, u180, u181, u182, u183, u184, u185, u186, u187, u188, u189, u190, u191, u192, u193, u194, u195, u196, u197, u198, u199, u200, u201, u202, u203, u204, u205, u206, u207, u208, u209, u210, u211, u212, u213, u214, u215, u216, u217, u218, u219, u220, u221, u222, u223, u224, u225, u226, u227, u228], []⟩ w := by
 conv => arg 2; whnf
 obtain ⟨f', rfl, hgo⟩ := hL.out.go_ hlt
 obtain ⟨c, hc⟩ : ∃ c, s[i] = c := ⟨_, rfl⟩
 rw [hc] at hgo
 have hc3 := c.toNat_lt
 have hdr := drop_cons s i hlt
 rw [hc] at hdr
 replace hdr := Lib.hid hdr
 have hfu := hL.out.fuel
 have hlo := hL.out.len
 have hiw : IntKind.i64.wrap ((i : Int) + 1) = ((i + 1 : Nat) : Int) := by rw [IntWalk.i64_in _ (by omega)]; omega
 rw [hc] at hws
 have h32 : ((c.toNat : Int) == 32) = false := by unfold wsC at hws; simp at hws; simp; omega
 have h9 : ((c.toNat : Int) == 9) = false := by unfold wsC at hws; simp at hws; simp; omega
 have h13 : ((c.toNat : Int) == 13) = false := by unfold wsC at hws; simp at hws; simp; omega
 have h10 : ((c.toNat : Int) == 10) = false := by unfold wsC at hws; simp at hws; simp; omega
 rw [hc] at h35
 have hi : i ≤ s.size := Nat.le_of_lt hlt
 have hq : ((c.toNat : Int) == 35) = true := by simp; omega
 have hne : c.toNat ≠ 10 := by omega
 have hgo2 := Lib.hid ((lexL_note hws h35).symm.trans hgo)
 replace hws := Lib.hid hws
 clear hgo h35
 go_wp2_with fail
 go_loop [6] (fun iv => ∃ j : Nat, i ≤ j ∧ j ≤ s.size ∧ iv = .int .i64 j ∧ Hid (span_ (fun x => x.toNat != 10) (s.data.toList.drop i) = (j - i) + span_ (fun x => x.toNat != 10) (s.data.toList.drop j))) (fun iv => s.size - (intOf iv).toNat)
 case atStart => exact ⟨i, Nat.le_refl _, hi, rfl, Lib.hid (by omega)⟩
 case round =>
  obtain ⟨j, hij, hj, rfl, hsp⟩ := hrel
  have hend : span_ (fun x => x.toNat != 10) (s.data.toList.drop j) = 0 → i < j ∧ Hid (TokL s R f' j out ov w0 w) := fun h0 => by
   have hk : span_ (fun x => x.toNat != 10) (s.data.toList.drop i) = j - i := by have := hsp.out; omega
   have h1 : 1 ≤ span_ (fun x => x.toNat != 10) (s.data.toList.drop i) := by rw [hdr.out, span_cons_yes (by simpa using hne)]; omega
   refine ⟨by omega, Lib.hid ⟨?_, by omega, by omega, hL.out.own, hL.out.bel⟩⟩
   rw [← hgo2.out, ← hdr.out, hk, List.drop_drop, show i + (j - i) = j by omega]
  have hjw : IntKind.i64.wrap ((j : Int) + 1) = ((j + 1 : Nat) : Int) := by rw [IntWalk.i64_in _ (by omega)]; omega
  by_cases hjl : j < s.size
  ·have hdj := drop_cons s j hjl
   obtain ⟨d, hd⟩ : ∃ d, s[j] = d := ⟨_, rfl⟩
   rw [hd] at hdj
   have hd3 := d.toNat_lt
   by_cases hdn : d.toNat = 10
   ·have hq2 : ((d.toNat : Int) != 10) = false := by simp; omega
    obtain ⟨hij2, hL2⟩ := hend (by rw [hdj, span_cons_no (by simp [hdn])])
    clear hdj hsp hend hdn
    go_wp2_with fail
    refine ⟨?_, by simp [Wmu, intOf]; omega⟩
    unfold WI
    refine ⟨_, _, _, _, _, _, _, _, _, _, _, _, _, _, _, _, _, _, _, _, _, _, _, _, _, _, _, _, _, _, _, _, _, _, _, _, _, _, _, _, _, _, _, _, _, _, _, _, _, _, _, _, _, _, _, _, _, _, _, _, _, _, _, _, _, _, _, _, _, _, _, _, _, _, _, _, _, _, _, _, _, _, _, _, _, _, _, _, _, _, _, _, _, _, _, _, _, _, _, _, _, _, _, _, _, _, _, _, _, _, _, _, _, _, _, _, _, _, _, _, _, _, _, _, _, _, _, _, _, _, _, _, _, _, _, _, _, _, _, _, _, _, _, _, _, _, _, _, _, _, _, _, _, _, _, _, _, _, _, _, _, _, _, _, _, _, _, _, _, _, _, _, _, _, _, _, _, _, _, _, _, _, _, _, _, _, _, _, _, _, _, _, _, _, _, _, _, _, _, _, _, _, _, _, _, _, _, _, _, _, _, _, _, _, _, _, _, _, _, _, _, _, _, _, ?_, rfl⟩
    exact ⟨f', j, out, hj, rfl, hL2.out⟩
   ·have hq2 : ((d.toNat : Int) != 10) = true := by simp; omega
    have hsp2 : Hid (span_ (fun x => x.toNat != 10) (s.data.toList.drop i) = (j + 1 - i) + span_ (fun x => x.toNat != 10) (s.data.toList.drop (j + 1))) := Lib.hid (by rw [hsp.out, hdj, span_cons_yes (by simpa using hdn)]; omega)
    clear hdj hsp hend hdn
    go_wp2_with fail
    go_round
    case rel => exact ⟨j + 1, by omega, by omega, by go_num, hsp2⟩
    case measure => simp [intOf]; omega
  ·obtain ⟨hij2, hL2⟩ := hend (by rw [List.drop_of_length_le (by simp; omega)]; rfl)
   clear hsp hend
   go_wp2_with fail
   refine ⟨?_, by simp [Wmu, intOf]; omega⟩
   unfold WI
   refine ⟨_, _, _, _, _, _, _, _, _, _, _, _, _, _, _, _, _, _, _, _, _, _, _, _, _, _, _, _, _, _, _, _, _, _, _, _, _, _, _, _, _, _, _, _, _, _, _, _, _, _, _, _, _, _, _, _, _, _, _, _, _, _, _, _, _, _, _, _, _, _, _, _, _, _, _, _, _, _, _, _, _, _, _, _, _, _, _, _, _, _, _, _, _, _, _, _, _, _, _, _, _, _, _, _, _, _, _, _, _, _, _, _, _, _, _, _, _, _, _, _, _, _, _, _, _, _, _, _, _, _, _, _, _, _, _, _, _, _, _, _, _, _, _, _, _, _, _, _, _, _, _, _, _, _, _, _, _, _, _, _, _, _, _, _, _, _, _, _, _, _, _, _, _, _, _, _, _, _, _, _, _, _, _, _, _, _, _, _, _, _, _, _, _, _, _, _, _, _, _, _, _, _, _, _, _, _, _, _, _, _, _, _, _, _, _, _, _, _, _, _, _, _, _, _, ?_, rfl⟩
   exact ⟨f', j, out, hj, rfl, hL2.out⟩

set_option maxRecDepth 1000000 in
set_option maxHeartbeats 8000000 in
theorem tok_name (s : ByteArray) (R : List Tok × Nat × Nat) (w0 w : World) (Q0 : Exit → Act → World → Prop) (f i : Nat) (out : List Tok) (ov u7 u8 u9 u10 u11 u12 u13 u14 u15 u16 u17 u18 u19 u20 u21 u22 u23 u24 u25 u26 u27 u28 u29 u30 u31 u32 u33 u34 u35 u36 u37 u38 u39 u40 u41 u42 u43 u44 u45 u46 u47 u48 u49 u50 u51 u52 u53 u54 u55 u56 u57 u58 u59 u60 u61 u62 u63 u64 u65 u66 u67 u68 u69 u70 u71 u72 u73 u74 u75 u76 u77 u78 u79 u80 u81 u82 u83 u84 u85 u86 u87 u88 u89 u90 u91 u92 u93 u94 u95 u96 u97 u98 u99 u100 u101 u102 u103 u104 u105 u106 u107 u108 u109 u110 u111 u112 u113 u114 u115 u116 u117 u118 u119 u120 u121 u122 u123 u124 u125 u126 u127 u128 u129 u130 u131 u132 u133 u134 u135 u136 u137 u138 u139 u140 u141 u142 u143 u144 u145 u146 u147 u148 u149 u150 u151 u152 u153 u154 u155 u156 u157 u158 u159 u160 u161 u162 u163 u164 u165 u166 u167 u168 u169 u170 u171 u172 u173 u174 u175 u176 u177 u178 u179 u180 u181 u182 u183 u184 u185 u186 u187 u188 u189 u190 u191 u192 u193 u194 u195 u196 u197 u198 u199 u200 u201 u202 u203 u204 u205 u206 u207 u208 u209 u210 u211 u212 u213 u214 u215 u216 u217 u218 u219 u220 u221 u222 u223 u224 u225 u226 u227 u228 : Value) (hs : s.size ≤ 4096) (hL : Hid (TokL s R f i out ov w0 w)) (hlt : i < s.size) (hws : wsC s[i] = false) (h35 : s[i].toNat ≠ 35) (hl : letC s[i] = true) (hret : ∀ a2 w2, WE s R w0 a2 w2 → Q0 .ret a2 w2) :
  Code.wp Try.prog tokBody (Exit.then (fun a2 w2 => WI s R w0 a2 w2 ∧ Wmu s a2 w2 < Wmu s ⟨#[.string s, undef, .slice none 0 0, .int .i64 0, .int .i64 0, ov, (.int .i64 i), u7, u8, u9, u10, u11, u12, u13, u14, u15, u16, u17, u18, u19, u20, u21, u22, u23, u24, u25, u26, u27, u28, u29, u30, u31, u32, u33, u34, u35, u36, u37, u38, u39, u40, u41, u42, u43, u44, u45, u46, u47, u48, u49, u50, u51, u52, u53, u54, u55, u56, u57, u58, u59, u60, u61, u62, u63, u64, u65, u66, u67, u68, u69, u70, u71, u72, u73, u74, u75, u76, u77, u78, u79, u80, u81, u82, u83, u84, u85, u86, u87, u88, u89, u90, u91, u92, u93, u94, u95, u96, u97, u98, u99, u100, u101, u102, u103, u104, u105, u106, u107, u108, u109, u110, u111, u112, u113, u114, u115, u116, u117, u118, u119, u120, u121, u122, u123, u124, u125, u126, u127, u128, u129, u130, u131, u132, u133, u134, u135, u136, u137, u138, u139, u140, u141, u142, u143, u144, u145, u146, u147, u148, u149, u150, u151, u152, u153, u154, u155, u156, u157, u158, u159, u160, u161, u162, u163, u164, u165, u166, u167, u168, u169, u170, u171, u172, u173, u174, u175, u176, u177, u178, u179, u180, u181, u182, u183, u184, u185, u186, u187, u188, u189, u190, u191, u192, u193, u194, u195, u196, u197, u198, u199, u200, u201, u202, u203, u204, u205, u206, u207, u208, u209, u210, u211, u212, u213, u214, u215, u216, u217, u218, u219, u220, u221, u222, u223, u224, u225, u226, u227, u228], []⟩ w) Q0) ⟨#[.string s, undef, .slice none 0 0, .int .i64 0, .int .i64 0, ov, (.int .i64 i), u7, u8, u9, u10, u11, u12, u13, u14, u15, u16, u17, u18, u19, u20, u21, u22, u23, u24, u25, u26, u27, u28, u29, u30, u31, u32, u33, u34, u35, u36, u37, u38, u39, u40, u41, u42, u43, u44, u45, u46, u47, u48, u49, u50, u51, u52, u53, u54, u55, u56, u57, u58, u59, u60, u61, u62, u63, u64, u65, u66, u67, u68, u69, u70, u71, u72, u73, u74, u75, u76, u77, u78, u79, u80, u81, u82, u83, u84, u85, u86, u87, u88, u89, u90, u91, u92, u93, u94, u95, u96, u97, u98, u99, u100, u101, u102, u103, u104, u105, u106, u107, u108, u109, u110, u111, u112, u113, u114, u115, u116, u117, u118, u119, u120, u121, u122, u123, u124, u125, u126, u127, u128, u129, u130, u131, u132, u133, u134, u135, u136, u137, u138, u139, u140, u141, u142, u143, u144, u145, u146, u147, u148, u149, u150, u151, u152, u153, u154, u155, u156, u157, u158, u159, u160, u161, u162, u163, u164, u165, u166, u167, u168, u169, u170, u171, u172, u173, u174, u175, u176, u177, u178, u179, u180, u181, u182, u183, u184, u185, u186, u187, u188, u189, u190, u191, u192, u193, u194, u195, u196, u197, u198, u199, u200, u201, u202, u203, u204, u205, u206, u207, u208, u209, u210, u211, u212, u213, u214, u215, u216, u217, u218, u219, u220, u221, u222, u223, u224, u225, u226, u227, u228], []⟩ w := by
 conv => arg 2; whnf
 obtain ⟨f', rfl, hgo⟩ := hL.out.go_ hlt
 obtain ⟨c, hc⟩ : ∃ c, s[i] = c := ⟨_, rfl⟩
 rw [hc] at hgo
 have hc3 := c.toNat_lt
 have hdr := drop_cons s i hlt
 rw [hc] at hdr
 replace hdr := Lib.hid hdr
 have hfu := hL.out.fuel
 have hlo := hL.out.len
 have hiw : IntKind.i64.wrap ((i : Int) + 1) = ((i + 1 : Nat) : Int) := by rw [IntWalk.i64_in _ (by omega)]; omega
 rw [hc] at hws
 have h32 : ((c.toNat : Int) == 32) = false := by unfold wsC at hws; simp at hws; simp; omega
 have h9 : ((c.toNat : Int) == 9) = false := by unfold wsC at hws; simp at hws; simp; omega
 have h13 : ((c.toNat : Int) == 13) = false := by unfold wsC at hws; simp at hws; simp; omega
 have h10 : ((c.toNat : Int) == 10) = false := by unfold wsC at hws; simp at hws; simp; omega
 rw [hc] at h35 hl
 have hq : ((c.toNat : Int) == 35) = false := by simp; omega
 have hgo2 := Lib.hid ((lexL_name hws h35 hl).symm.trans hgo)
 have hi : i ≤ s.size := Nat.le_of_lt hlt
 have hcl := letter_at w c
 rw [hl] at hcl
 replace hcl := Lib.hid hcl
 replace hws := Lib.hid hws
 replace hl := Lib.hid hl
 clear hgo h35
 go_wp2_with fail
 refine hcl.out.mono ?_
 rintro e w' ⟨rfl, rfl⟩
 go_wp2_with fail
 go_loop [6] (fun iv => ∃ j : Nat, i ≤ j ∧ j ≤ s.size ∧ iv = .int .i64 j ∧ Hid (span_ (fun x => letC x || digC x) (s.data.toList.drop i) = (j - i) + span_ (fun x => letC x || digC x) (s.data.toList.drop j))) (fun iv => s.size - (intOf iv).toNat)
 case atStart => exact ⟨i, Nat.le_refl _, hi, rfl, Lib.hid (by omega)⟩
 case round =>
  obtain ⟨j, hij, hj, rfl, hsp⟩ := hrel
  have hjw : IntKind.i64.wrap ((j : Int) + 1) = ((j + 1 : Nat) : Int) := by rw [IntWalk.i64_in _ (by omega)]; omega
  by_cases hjl : j < s.size
  ·have hdj := drop_cons s j hjl
   obtain ⟨d, hd⟩ : ∃ d, s[j] = d := ⟨_, rfl⟩
   rw [hd] at hdj
   have hd3 := d.toNat_lt
   have hld := letter_at w d
   have hdd := digit_at w d
   cases hdl : letC d with
   | true =>
    have hsp2 : Hid (span_ (fun x => letC x || digC x) (s.data.toList.drop i) = (j + 1 - i) + span_ (fun x => letC x || digC x) (s.data.toList.drop (j + 1))) := Lib.hid (by rw [hsp.out, hdj, span_cons_yes (by simp [hdl])]; omega)
    rw [hdl] at hld
    replace hld := Lib.hid hld
    clear hdj hsp hdl hdd
    go_wp2_with fail
    refine hld.out.mono ?_
    rintro e w' ⟨rfl, rfl⟩
    go_wp2_with fail
    go_round
    case rel => exact ⟨j + 1, by omega, by omega, by go_num, hsp2⟩
    case measure => simp [intOf]; omega
   | false =>
    cases hdg : digC d with
    | true =>
     have hsp2 : Hid (span_ (fun x => letC x || digC x) (s.data.toList.drop i) = (j + 1 - i) + span_ (fun x => letC x || digC x) (s.data.toList.drop (j + 1))) := Lib.hid (by rw [hsp.out, hdj, span_cons_yes (by simp [hdg])]; omega)
     rw [hdl] at hld
     rw [hdg] at hdd
     replace hld := Lib.hid hld
     replace hdd := Lib.hid hdd
     clear hdj hsp hdl hdg
     go_wp2_with fail
     refine hld.out.mono ?_
     rintro e w' ⟨rfl, rfl⟩
     go_wp2_with fail
     refine hdd.out.mono ?_
     rintro e w' ⟨rfl, rfl⟩
     go_wp2_with fail
     go_round
     case rel => exact ⟨j + 1, by omega, by omega, by go_num, hsp2⟩
     case measure => simp [intOf]; omega
    | false =>
     have hz : span_ (fun x => letC x || digC x) (s.data.toList.drop j) = 0 := by rw [hdj, span_cons_no (by simp [hdl, hdg])]
     rw [hdl] at hld
     rw [hdg] at hdd
     replace hld := Lib.hid hld
     replace hdd := Lib.hid hdd
     clear hdj hdl hdg
     go_upto_region 21 with (fail)
     go_wp2_with fail
     refine hld.out.mono ?_
     rintro e w' ⟨rfl, rfl⟩
     go_wp2_with fail
     refine hdd.out.mono ?_
     rintro e w' ⟨rfl, rfl⟩
     have hk : Hid (span_ (fun x => letC x || digC x) (s.data.toList.drop i) = j - i) := Lib.hid (by have := hsp.out; omega)
     have h1 : Hid (1 ≤ span_ (fun x => letC x || digC x) (s.data.toList.drop i)) := Lib.hid (by rw [hdr.out, span_cons_yes (by simp [hl.out])]; omega)
     have hij2 : i < j := by have := h1.out; rw [hk.out] at this; omega
     have hsub : IntKind.i64.wrap ((j : Int) - (i : Int)) = (j : Int) - (i : Int) := IntWalk.i64_in _ (by omega)
     have hgo3 := hgo2.out
     rw [← hdr.out, hk.out, List.drop_drop, show i + (j - i) = j by omega] at hgo3
     clear hz hsp
     by_cases h33 : 32 < j - i
     ·have h33' : (32 : Int) < (j : Int) - (i : Int) := by omega
      rw [if_pos h33] at hgo3
      replace hgo3 := Lib.hid hgo3
      go_wp2_with fail
      unfold WE
      refine ⟨_, _, _, _, _, _, _, _, _, _, _, _, _, _, _, _, _, _, _, _, _, _, _, _, _, _, _, _, _, _, _, _, _, _, _, _, _, _, _, _, _, _, _, _, _, _, _, _, _, _, _, _, _, _, _, _, _, _, _, _, _, _, _, _, _, _, _, _, _, _, _, _, _, _, _, _, _, _, _, _, _, _, _, _, _, _, _, _, _, _, _, _, _, _, _, _, _, _, _, _, _, _, _, _, _, _, _, _, _, _, _, _, _, _, _, _, _, _, _, _, _, _, _, _, _, _, _, _, _, _, _, _, _, _, _, _, _, _, _, _, _, _, _, _, _, _, _, _, _, _, _, _, _, _, _, _, _, _, _, _, _, _, _, _, _, _, _, _, _, _, _, _, _, _, _, _, _, _, _, _, _, _, _, _, _, _, _, _, _, _, _, _, _, _, _, _, _, _, _, _, _, _, _, _, _, _, _, _, _, _, _, _, _, _, _, _, _, _, _, _, _, _, _, _, _, _, ?_, rfl⟩
      exact ⟨hgo3.out.symm, hL.out.bel⟩
     ·have h33' : ¬ (32 : Int) < (j : Int) - (i : Int) := by omega
      rw [if_neg h33] at hgo3
      have hfin := Lib.hid hgo3
      have hext : Hid (s.extract i j = strV ((s.data.toList.drop i).take (j - i))) := Lib.hid (extract_strV s i j)
      have c1 : (i : Int) ≤ (j : Int) := by omega
      have c2 : (j : Int) ≤ (s.size : Int) := by omega
      clear hgo3
      have hbn := below_new w (.cells #[.int .i64 0, .string (s.extract i j), .int .i64 i] 84)
      have hO3 := Lib.hid (own_below hL.out.own hbn)
      have hnews : Hid (∀ (q : Nat) u, ([.int .i64 0, .string (s.extract i j), .int .i64 i] : List Value)[q]? = some u → (w.alloc (.cells #[.int .i64 0, .string (s.extract i j), .int .i64 i] 84)).cell? ((⟨w.heap.size, 0, none⟩ : Addr).add q) = some u) := Lib.hid (fun q u hu => by
       have hh := Holds.new w 84 #[.int .i64 0, .string (s.extract i j), .int .i64 i]
       have hadd : (⟨w.heap.size, 0, none⟩ : Addr).add q = ⟨w.heap.size, q, none⟩ := by unfold Addr.add; split <;> simp_all
       rw [hadd, hh.cell]
       simpa using hu)
      have hone : Hid (∀ u ∈ ([.int .i64 0, .string (s.extract i j), .int .i64 i] : List Value), u.oneCell' = true) := Lib.hid (by simp; exact ⟨rfl, rfl, rfl⟩)
      have hsz2 : Hid (w0.heap.size ≤ (w.alloc (.cells #[.int .i64 0, .string (s.extract i j), .int .i64 i] 84)).heap.size) := Lib.hid (Nat.le_trans hL.out.bel.size hbn.size)
      have hB3 := Lib.hid (hL.out.bel.trans (hbn.mono hL.out.bel.size))
      clear hbn
      obtain ⟨iA, hiA, hzA0, hzA1, hzA2⟩ := info_parts Try.infoTok
      go_wp2_with
       (at_builtin
        go_loud (refine wpList_append_own_at _ rfl (.tmp 158) (.tmp 165) 46 rfl w0.heap.size 84 iA _ 3 32 rfl hiA hzA0 hzA1 hzA2 rfl (by omega) ov out.length (out.flatMap Tok.cells) rfl hO3.out ⟨w.heap.size, 0, none⟩ 1 1 [.int .i64 0, .string (s.extract i j), .int .i64 i] rfl rfl hnews.out hone.out (by unfold maxLen; omega) (by omega) hsz2.out ?_)
        go_loud (
         intro v5 w5 ho5 hg5 _ hv5
         have hO7 : Hid (w5.ownsRow w0.heap.size 84 3 v5 (out.length + 1) (out.flatMap Tok.cells ++ [.int .i64 0, .string (s.extract i j), .int .i64 i])) := Lib.hid ho5
         have hB7 : Hid (Below w0.heap.size w0 w5) := Lib.hid (hB3.out.trans ((Writes.of_grown hg5 (M := [ov.ownBlock]) (by simp)).below hB3.out.size (fun q hq => ownK_ge hO3.out (List.mem_singleton.1 hq).symm)))
         clear ho5 hg5 hv5))
      have hL2 : TokL s R f' (j) (out ++ [⟨0, (s.data.toList.drop i).take (j - i), i⟩]) v5 w0 w5 := ⟨hfin.out, by omega, by rw [List.length_append, List.length_singleton]; omega, by
       rw [List.length_append, List.flatMap_append]
       have hx := hO7.out
       rw [hext.out] at hx
       exact hx, hB7.out⟩

      refine ⟨?_, by simp [Wmu, intOf]; omega⟩
      unfold WI
      refine ⟨_, _, _, _, _, _, _, _, _, _, _, _, _, _, _, _, _, _, _, _, _, _, _, _, _, _, _, _, _, _, _, _, _, _, _, _, _, _, _, _, _, _, _, _, _, _, _, _, _, _, _, _, _, _, _, _, _, _, _, _, _, _, _, _, _, _, _, _, _, _, _, _, _, _, _, _, _, _, _, _, _, _, _, _, _, _, _, _, _, _, _, _, _, _, _, _, _, _, _, _, _, _, _, _, _, _, _, _, _, _, _, _, _, _, _, _, _, _, _, _, _, _, _, _, _, _, _, _, _, _, _, _, _, _, _, _, _, _, _, _, _, _, _, _, _, _, _, _, _, _, _, _, _, _, _, _, _, _, _, _, _, _, _, _, _, _, _, _, _, _, _, _, _, _, _, _, _, _, _, _, _, _, _, _, _, _, _, _, _, _, _, _, _, _, _, _, _, _, _, _, _, _, _, _, _, _, _, _, _, _, _, _, _, _, _, _, _, _, _, _, _, _, _, _, ?_, rfl⟩
      exact ⟨f', j, _, hj, rfl, hL2⟩
  ·have hz : span_ (fun x => letC x || digC x) (s.data.toList.drop j) = 0 := by rw [List.drop_of_length_le (by simp; omega)]; rfl
   have hk : Hid (span_ (fun x => letC x || digC x) (s.data.toList.drop i) = j - i) := Lib.hid (by have := hsp.out; omega)
   have h1 : Hid (1 ≤ span_ (fun x => letC x || digC x) (s.data.toList.drop i)) := Lib.hid (by rw [hdr.out, span_cons_yes (by simp [hl.out])]; omega)
   have hij2 : i < j := by have := h1.out; rw [hk.out] at this; omega
   have hsub : IntKind.i64.wrap ((j : Int) - (i : Int)) = (j : Int) - (i : Int) := IntWalk.i64_in _ (by omega)
   have hgo3 := hgo2.out
   rw [← hdr.out, hk.out, List.drop_drop, show i + (j - i) = j by omega] at hgo3
   clear hz hsp
   by_cases h33 : 32 < j - i
   ·have h33' : (32 : Int) < (j : Int) - (i : Int) := by omega
    rw [if_pos h33] at hgo3
    replace hgo3 := Lib.hid hgo3
    go_wp2_with fail
    unfold WE
    refine ⟨_, _, _, _, _, _, _, _, _, _, _, _, _, _, _, _, _, _, _, _, _, _, _, _, _, _, _, _, _, _, _, _, _, _, _, _, _, _, _, _, _, _, _, _, _, _, _, _, _, _, _, _, _, _, _, _, _, _, _, _, _, _, _, _, _, _, _, _, _, _, _, _, _, _, _, _, _, _, _, _, _, _, _, _, _, _, _, _, _, _, _, _, _, _, _, _, _, _, _, _, _, _, _, _, _, _, _, _, _, _, _, _, _, _, _, _, _, _, _, _, _, _, _, _, _, _, _, _, _, _, _, _, _, _, _, _, _, _, _, _, _, _, _, _, _, _, _, _, _, _, _, _, _, _, _, _, _, _, _, _, _, _, _, _, _, _, _, _, _, _, _, _, _, _, _, _, _, _, _, _, _, _, _, _, _, _, _, _, _, _, _, _, _, _, _, _, _, _, _, _, _, _, _, _, _, _, _, _, _, _, _, _, _, _, _, _, _, _, _, _, _, _, _, _, _, _, ?_, rfl⟩
    exact ⟨hgo3.out.symm, hL.out.bel⟩
   ·have h33' : ¬ (32 : Int) < (j : Int) - (i : Int) := by omega
    rw [if_neg h33] at hgo3
    have hfin := Lib.hid hgo3
    have hext : Hid (s.extract i j = strV ((s.data.toList.drop i).take (j - i))) := Lib.hid (extract_strV s i j)
    have c1 : (i : Int) ≤ (j : Int) := by omega
    have c2 : (j : Int) ≤ (s.size : Int) := by omega
    clear hgo3
    have hbn := below_new w (.cells #[.int .i64 0, .string (s.extract i j), .int .i64 i] 84)
    have hO3 := Lib.hid (own_below hL.out.own hbn)
    have hnews : Hid (∀ (q : Nat) u, ([.int .i64 0, .string (s.extract i j), .int .i64 i] : List Value)[q]? = some u → (w.alloc (.cells #[.int .i64 0, .string (s.extract i j), .int .i64 i] 84)).cell? ((⟨w.heap.size, 0, none⟩ : Addr).add q) = some u) := Lib.hid (fun q u hu => by
     have hh := Holds.new w 84 #[.int .i64 0, .string (s.extract i j), .int .i64 i]
     have hadd : (⟨w.heap.size, 0, none⟩ : Addr).add q = ⟨w.heap.size, q, none⟩ := by unfold Addr.add; split <;> simp_all
     rw [hadd, hh.cell]
     simpa using hu)
    have hone : Hid (∀ u ∈ ([.int .i64 0, .string (s.extract i j), .int .i64 i] : List Value), u.oneCell' = true) := Lib.hid (by simp; exact ⟨rfl, rfl, rfl⟩)
    have hsz2 : Hid (w0.heap.size ≤ (w.alloc (.cells #[.int .i64 0, .string (s.extract i j), .int .i64 i] 84)).heap.size) := Lib.hid (Nat.le_trans hL.out.bel.size hbn.size)
    have hB3 := Lib.hid (hL.out.bel.trans (hbn.mono hL.out.bel.size))
    clear hbn
    obtain ⟨iA, hiA, hzA0, hzA1, hzA2⟩ := info_parts Try.infoTok
    go_wp2_with
     (at_builtin
      go_loud (refine wpList_append_own_at _ rfl (.tmp 158) (.tmp 165) 46 rfl w0.heap.size 84 iA _ 3 32 rfl hiA hzA0 hzA1 hzA2 rfl (by omega) ov out.length (out.flatMap Tok.cells) rfl hO3.out ⟨w.heap.size, 0, none⟩ 1 1 [.int .i64 0, .string (s.extract i j), .int .i64 i] rfl rfl hnews.out hone.out (by unfold maxLen; omega) (by omega) hsz2.out ?_)
      go_loud (
       intro v5 w5 ho5 hg5 _ hv5
       have hO7 : Hid (w5.ownsRow w0.heap.size 84 3 v5 (out.length + 1) (out.flatMap Tok.cells ++ [.int .i64 0, .string (s.extract i j), .int .i64 i])) := Lib.hid ho5
       have hB7 : Hid (Below w0.heap.size w0 w5) := Lib.hid (hB3.out.trans ((Writes.of_grown hg5 (M := [ov.ownBlock]) (by simp)).below hB3.out.size (fun q hq => ownK_ge hO3.out (List.mem_singleton.1 hq).symm)))
       clear ho5 hg5 hv5))
    have hL2 : TokL s R f' (j) (out ++ [⟨0, (s.data.toList.drop i).take (j - i), i⟩]) v5 w0 w5 := ⟨hfin.out, by omega, by rw [List.length_append, List.length_singleton]; omega, by
     rw [List.length_append, List.flatMap_append]
     have hx := hO7.out
     rw [hext.out] at hx
     exact hx, hB7.out⟩

    refine ⟨?_, by simp [Wmu, intOf]; omega⟩
    unfold WI
    refine ⟨_, _, _, _, _, _, _, _, _, _, _, _, _, _, _, _, _, _, _, _, _, _, _, _, _, _, _, _, _, _, _, _, _, _, _, _, _, _, _, _, _, _, _, _, _, _, _, _, _, _, _, _, _, _, _, _, _, _, _, _, _, _, _, _, _, _, _, _, _, _, _, _, _, _, _, _, _, _, _, _, _, _, _, _, _, _, _, _, _, _, _, _, _, _, _, _, _, _, _, _, _, _, _, _, _, _, _, _, _, _, _, _, _, _, _, _, _, _, _, _, _, _, _, _, _, _, _, _, _, _, _, _, _, _, _, _, _, _, _, _, _, _, _, _, _, _, _, _, _, _, _, _, _, _, _, _, _, _, _, _, _, _, _, _, _, _, _, _, _, _, _, _, _, _, _, _, _, _, _, _, _, _, _, _, _, _, _, _, _, _, _, _, _, _, _, _, _, _, _, _, _, _, _, _, _, _, _, _, _, _, _, _, _, _, _, _, _, _, _, _, _, _, _, _, ?_, rfl⟩
    exact ⟨f', j, _, hj, rfl, hL2⟩

end Go.Proofs.Ytpndglghpojjkaa
/- The walk of Tokens: its great loop, numbers. -/
namespace Go.Proofs.Ytpndglghpojjkaa
open Go.RowKit Go.Deep

set_option maxRecDepth 1000000 in
set_option maxHeartbeats 8000000 in
theorem tok_num (s : ByteArray) (R : List Tok × Nat × Nat) (w0 w : World) (Q0 : Exit → Act → World → Prop) (f i : Nat) (out : List Tok) (ov u7 u8 u9 u10 u11 u12 u13 u14 u15 u16 u17 u18 u19 u20 u21 u22 u23 u24 u25 u26 u27 u28 u29 u30 u31 u32 u33 u34 u35 u36 u37 u38 u39 u40 u41 u42 u43 u44 u45 u46 u47 u48 u49 u50 u51 u52 u53 u54 u55 u56 u57 u58 u59 u60 u61 u62 u63 u64 u65 u66 u67 u68 u69 u70 u71 u72 u73 u74 u75 u76 u77 u78 u79 u80 u81 u82 u83 u84 u85 u86 u87 u88 u89 u90 u91 u92 u93 u94 u95 u96 u97 u98 u99 u100 u101 u102 u103 u104 u105 u106 u107 u108 u109 u110 u111 u112 u113 u114 u115 u116 u117 u118 u119 u120 u121 u122 u123 u124 u125 u126 u127 u128 u129 u130 u131 u132 u133 u134 u135 u136 u137 u138 u139 u140 u141 u142 u143 u144 u145 u146 u147 u148 u149 u150 u151 u152 u153 u154 u155 u156 u157 u158 u159 u160 u161 u162 u163 u164 u165 u166 u167 u168 u169 u170 u171 u172 u173 u174 u175 u176 u177 u178 u179 u180 u181 u182 u183 u184 u185 u186 u187 u188 u189 u190 u191 u192 u193 u194 u195 u196 u197 u198 u199 u200 u201 u202 u203 u204 u205 u206 u207 u208 u209 u210 u211 u212 u213 u214 u215 u216 u217 u218 u219 u220 u221 u222 u223 u224 u225 u226 u227 u228 : Value) (hs : s.size ≤ 4096) (hL : Hid (TokL s R f i out ov w0 w)) (hlt : i < s.size) (hws : wsC s[i] = false) (h35 : s[i].toNat ≠ 35) (hl : letC s[i] = false) (hd : digC s[i] = true) (hret : ∀ a2 w2, WE s R w0 a2 w2 → Q0 .ret a2 w2) :
  Code.wp Try.prog tokBody (Exit.then (fun a2 w2 => WI s R w0 a2 w2 ∧ Wmu s a2 w2 < Wmu s ⟨#[.string s, undef, .slice none 0 0, .int .i64 0, .int .i64 0, ov, (.int .i64 i), u7, u8, u9, u10, u11, u12, u13, u14, u15, u16, u17, u18, u19, u20, u21, u22, u23, u24, u25, u26, u27, u28, u29, u30, u31, u32, u33, u34, u35, u36, u37, u38, u39, u40, u41, u42, u43, u44, u45, u46, u47, u48, u49, u50, u51, u52, u53, u54, u55, u56, u57, u58, u59, u60, u61, u62, u63, u64, u65, u66, u67, u68, u69, u70, u71, u72, u73, u74, u75, u76, u77, u78, u79, u80, u81, u82, u83, u84, u85, u86, u87, u88, u89, u90, u91, u92, u93, u94, u95, u96, u97, u98, u99, u100, u101, u102, u103, u104, u105, u106, u107, u108, u109, u110, u111, u112, u113, u114, u115, u116, u117, u118, u119, u120, u121, u122, u123, u124, u125, u126, u127, u128, u129, u130, u131, u132, u133, u134, u135, u136, u137, u138, u139, u140, u141, u142, u143, u144, u145, u146, u147, u148, u149, u150, u151, u152, u153, u154, u155, u156, u157, u158, u159, u160, u161, u162, u163, u164, u165, u166, u167, u168, u169, u170, u171, u172, u173, u174, u175, u176, u177, u178, u179, u180, u181, u182, u183, u184, u185, u186, u187, u188, u189, u190, u191, u192, u193, u194, u195, u196, u197, u198, u199, u200, u201, u202, u203, u204, u205, u206, u207, u208, u209, u210, u211, u212, u213, u214, u215, u216, u217, u218, u219, u220, u221, u222, u223, u224, u225, u226, u227, u228], []⟩ w) Q0) ⟨#[.string s, undef, .slice none 0 0, .int .i64 0, .int .i64 0, ov, (.int .i64 i), u7, u8, u9, u10, u11, u12, u13, u14, u15, u16, u17, u18, u19, u20, u21, u22, u23, u24, u25, u26, u27, u28, u29, u30, u31, u32, u33, u34, u35, u36, u37, u38, u39, u40, u41, u42, u43, u44, u45, u46, u47, u48, u49, u50, u51, u52, u53, u54, u55, u56, u57, u58, u59, u60, u61, u62, u63, u64, u65, u66, u67, u68, u69, u70, u71, u72, u73, u74, u75, u76, u77, u78, u79, u80, u81, u82, u83, u84, u85, u86, u87, u88, u89, u90, u91, u92, u93, u94, u95, u96, u97, u98, u99, u100, u101, u102, u103, u104, u105, u106, u107, u108, u109, u110, u111, u112, u113, u114, u115, u116, u117, u118, u119, u120, u121, u122, u123, u124, u125, u126, u127, u128, u129, u130, u131, u132, u133, u134, u135, u136, u137, u138, u139, u140, u141, u142, u143, u144, u145, u146, u147, u148, u149, u150, u151, u152, u153, u154, u155, u156, u157, u158, u159, u160, u161, u162, u163, u164, u165, u166, u167, u168, u169, u170, u171, u172, u173, u174, u175, u176, u177, u178, u179, u180, u181, u182, u183, u184, u185, u186, u187, u188, u189, u190, u191, u192, u193, u194, u195, u196, u197, u198, u199, u200, u201, u202, u203, u204, u205, u206, u207, u208, u209, u210, u211, u212, u213, u214, u215, u216, u217, u218, u219, u220, u221, u222, u223, u224, u225, u226, u227, u228], []⟩ w := by
 conv => arg 2; whnf
 obtain ⟨f', rfl, hgo⟩ := hL.out.go_ hlt
 obtain ⟨c, hc⟩ : ∃ c, s[i] = c := ⟨_, rfl⟩
 rw [hc] at hgo
 have hc3 := c.toNat_lt
 have hdr := drop_cons s i hlt
 rw [hc] at hdr
 replace hdr := Lib.hid hdr
 have hfu := hL.out.fuel
 have hlo := hL.out.len
 have hiw : IntKind.i64.wrap ((i : Int) + 1) = ((i + 1 : Nat) : Int) := by rw [IntWalk.i64_in _ (by omega)]; omega
 rw [hc] at hws
 have h32 : ((c.toNat : Int) == 32) = false := by unfold wsC at hws; simp at hws; simp; omega
 have h9 : ((c.toNat : Int) == 9) = false := by unfold wsC at hws; simp at hws; simp; omega
 have h13 : ((c.toNat : Int) == 13) = false := by unfold wsC at hws; simp at hws; simp; omega
 have h10 : ((c.toNat : Int) == 10) = false := by unfold wsC at hws; simp at hws; simp; omega
 rw [hc] at h35 hl hd
 have hi : i ≤ s.size := Nat.le_of_lt hlt
 have hq : ((c.toNat : Int) == 35) = false := by simp; omega
 have hgo2 := Lib.hid ((lexL_num hws h35 hl hd).symm.trans hgo)
 have hcl := letter_at w c
 rw [hl] at hcl
 have hcd := digit_at w c
 rw [hd] at hcd
 replace hcl := Lib.hid hcl
 replace hcd := Lib.hid hcd
 replace hws := Lib.hid hws
 replace hl := Lib.hid hl
 replace hd := Lib.hid hd
 clear hgo h35
 go_wp2_with fail
 refine hcl.out.mono ?_
 rintro e w' ⟨rfl, rfl⟩
 go_wp2_with fail
 refine hcd.out.mono ?_
 rintro e w' ⟨rfl, rfl⟩
 go_wp2_with fail
 go_loop [6, 9, 10] (fun iv nv gv => ∃ (j n : Nat) (g : Bool), i ≤ j ∧ j ≤ s.size ∧ n ≤ 9223372036854775809 ∧ iv = .int .i64 j ∧ nv = .int .u64 n ∧ gv = .bool g ∧ Hid (span_ digC (s.data.toList.drop i) = (j - i) + span_ digC (s.data.toList.drop j)) ∧ Hid (numG ((s.data.toList.drop i).take (span_ digC (s.data.toList.drop i))) 0 false = numG ((s.data.toList.drop j).take (span_ digC (s.data.toList.drop j))) n g)) (fun iv _ _ => s.size - (intOf iv).toNat)
 case atStart => exact ⟨i, 0, false, Nat.le_refl _, hi, by omega, rfl, rfl, rfl, Lib.hid (by omega), Lib.hid rfl⟩
 case round =>
  obtain ⟨j, n, g, hij, hj, hn, rfl, rfl, rfl, hsp, hnum⟩ := hrel
  have hjw : IntKind.i64.wrap ((j : Int) + 1) = ((j + 1 : Nat) : Int) := by rw [IntWalk.i64_in _ (by omega)]; omega
  by_cases hjl : j < s.size
  ·have hdj := drop_cons s j hjl
   obtain ⟨d, hdd0⟩ : ∃ d, s[j] = d := ⟨_, rfl⟩
   rw [hdd0] at hdj
   have hd3 := d.toNat_lt
   have hld := letter_at w d
   have hdd := digit_at w d
   cases hdg : digC d with
   | true =>
    have hsp2 : Hid (span_ digC (s.data.toList.drop i) = (j + 1 - i) + span_ digC (s.data.toList.drop (j + 1))) := Lib.hid (by rw [hsp.out, hdj, span_cons_yes hdg]; omega)
    have hr : 48 ≤ d.toNat ∧ d.toNat ≤ 57 := by unfold digC at hdg; simpa using hdg
    rw [hdg] at hdd
    replace hdd := Lib.hid hdd
    have ht : numG ((s.data.toList.drop j).take (span_ digC (s.data.toList.drop j))) n g = if 922337203685477580 < n then numG ((s.data.toList.drop (j + 1)).take (span_ digC (s.data.toList.drop (j + 1)))) n true else numG ((s.data.toList.drop (j + 1)).take (span_ digC (s.data.toList.drop (j + 1)))) (10 * n + (d.toNat - 48)) g := by
     rw [hdj, span_cons_yes hdg, List.take_succ_cons]
     rfl
    clear hdj hsp hdg hld
    by_cases hb : 922337203685477580 < n
    ·have hb' : (922337203685477580 : Int) < (n : Int) := by omega
     rw [if_pos hb] at ht
     have hn2 := Lib.hid (hnum.out.trans ht)
     clear ht hnum hb
     go_wp2_with fail
     refine hdd.out.mono ?_
     rintro e w' ⟨rfl, rfl⟩
     go_wp2_with fail
     go_round
     case rel => exact ⟨j + 1, n, true, by omega, by omega, hn, by go_num, rfl, rfl, hsp2, hn2⟩
     case measure => simp [intOf]; omega
    ·have hb' : ¬ (922337203685477580 : Int) < (n : Int) := by omega
     rw [if_neg hb] at ht
     have hn2 := Lib.hid (hnum.out.trans ht)
     have e1 := IntWalk.u64_in (10 * (n : Int)) (by omega)
     have e2 := IntWalk.u64_in (10 * (n : Int) + ((d.toNat : Int) - 48)) (by omega)
     have e3 : (0 : Int) ≤ (d.toNat : Int) - 48 := by omega
     have e4 : (d.toNat : Int) - 48 < 256 := by omega
     have hn3 : 10 * n + (d.toNat - 48) ≤ 9223372036854775809 := by omega
     have hval : (10 * (n : Int) + ((d.toNat : Int) - 48)) = ((10 * n + (d.toNat - 48) : Nat) : Int) := by omega
     replace hval := Lib.hid hval
     clear ht hnum hb
     go_wp2_with fail
     refine hdd.out.mono ?_
     rintro e w' ⟨rfl, rfl⟩
     go_wp2_with fail
     go_round
     case rel => exact ⟨j + 1, 10 * n + (d.toNat - 48), g, by omega, by omega, hn3, by go_num, by rw [← hval.out], rfl, hsp2, hn2⟩
     case measure => simp [intOf]; omega
   | false =>
    have hz : span_ digC (s.data.toList.drop j) = 0 := by rw [hdj, span_cons_no hdg]
    rw [hdg] at hdd
    replace hdd := Lib.hid hdd
    clear hdg
    go_wp2_with fail
    refine hdd.out.mono ?_
    rintro e w' ⟨rfl, rfl⟩
    have hk : Hid (span_ digC (s.data.toList.drop i) = j - i) := Lib.hid (by have := hsp.out; omega)
    have h1 : Hid (1 ≤ span_ digC (s.data.toList.drop i)) := Lib.hid (by rw [hdr.out, span_cons_yes hd.out]; omega)
    have hij2 : i < j := by have := h1.out; rw [hk.out] at this; omega
    have hsub : IntKind.i64.wrap ((j : Int) - (i : Int)) = (j : Int) - (i : Int) := IntWalk.i64_in _ (by omega)
    have hnum2 : numG ((s.data.toList.drop i).take (span_ digC (s.data.toList.drop i))) 0 false = (n, g) := by rw [hnum.out, hz]; rfl
    have hgo3 := hgo2.out
    rw [← hdr.out, hnum2, hk.out, List.drop_drop, show i + (j - i) = j by omega] at hgo3
    have hdj2 := hdj
    cases g with
    | true =>
     have hgo4 : ([], i, 53) = R := by rw [if_pos (by simp)] at hgo3; exact hgo3
     clear hgo3 hdj hdj2 hz hsp hnum hnum2
     replace hgo4 := Lib.hid hgo4
     go_wp2_with fail
     unfold WE
     refine ⟨_, _, _, _, _, _, _, _, _, _, _, _, _, _, _, _, _, _, _, _, _, _, _, _, _, _, _, _, _, _, _, _, _, _, _, _, _, _, _, _, _, _, _, _, _, _, _, _, _, _, _, _, _, _, _, _, _, _, _, _, _, _, _, _, _, _, _, _, _, _, _, _, _, _, _, _, _, _, _, _, _, _, _, _, _, _, _, _, _, _, _, _, _, _, _, _, _, _, _, _, _, _, _, _, _, _, _, _, _, _, _, _, _, _, _, _, _, _, _, _, _, _, _, _, _, _, _, _, _, _, _, _, _, _, _, _, _, _, _, _, _, _, _, _, _, _, _, _, _, _, _, _, _, _, _, _, _, _, _, _, _, _, _, _, _, _, _, _, _, _, _, _, _, _, _, _, _, _, _, _, _, _, _, _, _, _, _, _, _, _, _, _, _, _, _, _, _, _, _, _, _, _, _, _, _, _, _, _, _, _, _, _, _, _, _, _, _, _, _, _, _, _, _, _, _, _, ?_, rfl⟩
     exact ⟨hgo4.out.symm, hL.out.bel⟩
    | false =>
     by_cases hbg : 9223372036854775807 < n
     ·have hbg' : (9223372036854775807 : Int) < (n : Int) := by omega
      have hgo4 : ([], i, 53) = R := by rw [if_pos (by simp [hbg])] at hgo3; exact hgo3
      clear hgo3 hdj hdj2 hz hsp hnum hnum2
      replace hgo4 := Lib.hid hgo4
      go_wp2_with fail
      unfold WE
      refine ⟨_, _, _, _, _, _, _, _, _, _, _, _, _, _, _, _, _, _, _, _, _, _, _, _, _, _, _, _, _, _, _, _, _, _, _, _, _, _, _, _, _, _, _, _, _, _, _, _, _, _, _, _, _, _, _, _, _, _, _, _, _, _, _, _, _, _, _, _, _, _, _, _, _, _, _, _, _, _, _, _, _, _, _, _, _, _, _, _, _, _, _, _, _, _, _, _, _, _, _, _, _, _, _, _, _, _, _, _, _, _, _, _, _, _, _, _, _, _, _, _, _, _, _, _, _, _, _, _, _, _, _, _, _, _, _, _, _, _, _, _, _, _, _, _, _, _, _, _, _, _, _, _, _, _, _, _, _, _, _, _, _, _, _, _, _, _, _, _, _, _, _, _, _, _, _, _, _, _, _, _, _, _, _, _, _, _, _, _, _, _, _, _, _, _, _, _, _, _, _, _, _, _, _, _, _, _, _, _, _, _, _, _, _, _, _, _, _, _, _, _, _, _, _, _, _, _, ?_, rfl⟩
      exact ⟨hgo4.out.symm, hL.out.bel⟩
     ·have hbg' : ¬ (9223372036854775807 : Int) < (n : Int) := by omega
      rw [if_neg (by simp; omega)] at hgo3
      clear hz hsp hnum hnum2 hbg
      have hgo5 : (if (letC d || (c.toNat == 48 && decide (1 < j - i))) = true then (([] : List Tok), i, 50) else lexL f' (s.data.toList.drop j) j (out ++ [⟨1, (s.data.toList.drop i).take (j - i), i⟩])) = R := by
       rw [← hgo3]
       rw [hdj]
      clear hgo3
      have hgo3 := hgo5
      clear hgo5
      clear hdj hdj2
      cases hdl : letC d with
      | true =>
       have hgo4 : ([], i, 50) = R := by rw [if_pos (by simp [hdl])] at hgo3; exact hgo3
       rw [hdl] at hld
       replace hld := Lib.hid hld
       clear hgo3 hdl
       replace hgo4 := Lib.hid hgo4
       go_wp2_with fail
       refine hld.out.mono ?_
       rintro e w' ⟨rfl, rfl⟩
       go_wp2_with fail
       unfold WE
       refine ⟨_, _, _, _, _, _, _, _, _, _, _, _, _, _, _, _, _, _, _, _, _, _, _, _, _, _, _, _, _, _, _, _, _, _, _, _, _, _, _, _, _, _, _, _, _, _, _, _, _, _, _, _, _, _, _, _, _, _, _, _, _, _, _, _, _, _, _, _, _, _, _, _, _, _, _, _, _, _, _, _, _, _, _, _, _, _, _, _, _, _, _, _, _, _, _, _, _, _, _, _, _, _, _, _, _, _, _, _, _, _, _, _, _, _, _, _, _, _, _, _, _, _, _, _, _, _, _, _, _, _, _, _, _, _, _, _, _, _, _, _, _, _, _, _, _, _, _, _, _, _, _, _, _, _, _, _, _, _, _, _, _, _, _, _, _, _, _, _, _, _, _, _, _, _, _, _, _, _, _, _, _, _, _, _, _, _, _, _, _, _, _, _, _, _, _, _, _, _, _, _, _, _, _, _, _, _, _, _, _, _, _, _, _, _, _, _, _, _, _, _, _, _, _, _, _, _, ?_, rfl⟩
       exact ⟨hgo4.out.symm, hL.out.bel⟩
      | false =>
       rw [hdl, Bool.false_or] at hgo3
       rw [hdl] at hld
       replace hld := Lib.hid hld
       clear hdl
       by_cases hc0 : c.toNat = 48
       ·have hq0 : ((c.toNat : Int) == 48) = true := by simp; omega
        by_cases h1j : 1 < j - i
        ·have h1j' : (1 : Int) < (j : Int) - (i : Int) := by omega
         have hgo4 : ([], i, 50) = R := by rw [if_pos (by simp [hc0, h1j])] at hgo3; exact hgo3
         clear hgo3 hc0
         replace hgo4 := Lib.hid hgo4
         go_wp2_with fail
         refine hld.out.mono ?_
         rintro e w' ⟨rfl, rfl⟩
         go_wp2_with fail
         unfold WE
         refine ⟨_, _, _, _, _, _, _, _, _, _, _, _, _, _, _, _, _, _, _, _, _, _, _, _, _, _, _, _, _, _, _, _, _, _, _, _, _, _, _, _, _, _, _, _, _, _, _, _, _, _, _, _, _, _, _, _, _, _, _, _, _, _, _, _, _, _, _, _, _, _, _, _, _, _, _, _, _, _, _, _, _, _, _, _, _, _, _, _, _, _, _, _, _, _, _, _, _, _, _, _, _, _, _, _, _, _, _, _, _, _, _, _, _, _, _, _, _, _, _, _, _, _, _, _, _, _, _, _, _, _, _, _, _, _, _, _, _, _, _, _, _, _, _, _, _, _, _, _, _, _, _, _, _, _, _, _, _, _, _, _, _, _, _, _, _, _, _, _, _, _, _, _, _, _, _, _, _, _, _, _, _, _, _, _, _, _, _, _, _, _, _, _, _, _, _, _, _, _, _, _, _, _, _, _, _, _, _, _, _, _, _, _, _, _, _, _, _, _, _, _, _, _, _, _, _, _, ?_, rfl⟩
         exact ⟨hgo4.out.symm, hL.out.bel⟩
        ·have h1j' : ¬ (1 : Int) < (j : Int) - (i : Int) := by omega
         have hgo4 := hgo3
         rw [if_neg (by simp [h1j])] at hgo4
         clear hgo3 hc0
         have hfin := Lib.hid hgo4
         have hext : Hid (s.extract i j = strV ((s.data.toList.drop i).take (j - i))) := Lib.hid (extract_strV s i j)
         have c1 : (i : Int) ≤ (j : Int) := by omega
         have c2 : (j : Int) ≤ (s.size : Int) := by omega
         clear hgo4
         have hbn := below_new w (.cells #[.int .i64 1, .string (s.extract i j), .int .i64 i] 84)
         have hO3 := Lib.hid (own_below hL.out.own hbn)
         have hnews : Hid (∀ (q : Nat) u, ([.int .i64 1, .string (s.extract i j), .int .i64 i] : List Value)[q]? = some u → (w.alloc (.cells #[.int .i64 1, .string (s.extract i j), .int .i64 i] 84)).cell? ((⟨w.heap.size, 0, none⟩ : Addr).add q) = some u) := Lib.hid (fun q u hu => by
          have hh := Holds.new w 84 #[.int .i64 1, .string (s.extract i j), .int .i64 i]
          have hadd : (⟨w.heap.size, 0, none⟩ : Addr).add q = ⟨w.heap.size, q, none⟩ := by unfold Addr.add; split <;> simp_all
          rw [hadd, hh.cell]
          simpa using hu)
         have hone : Hid (∀ u ∈ ([.int .i64 1, .string (s.extract i j), .int .i64 i] : List Value), u.oneCell' = true) := Lib.hid (by simp; exact ⟨rfl, rfl, rfl⟩)
         have hsz2 : Hid (w0.heap.size ≤ (w.alloc (.cells #[.int .i64 1, .string (s.extract i j), .int .i64 i] 84)).heap.size) := Lib.hid (Nat.le_trans hL.out.bel.size hbn.size)
         have hB3 := Lib.hid (hL.out.bel.trans (hbn.mono hL.out.bel.size))
         clear hbn
         obtain ⟨iA, hiA, hzA0, hzA1, hzA2⟩ := info_parts Try.infoTok
         go_wp2_with fail
         refine hld.out.mono ?_
         rintro e w' ⟨rfl, rfl⟩
         go_wp2_with
          (at_builtin
           go_loud (refine wpList_append_own_at _ rfl (.tmp 219) (.tmp 226) 46 rfl w0.heap.size 84 iA _ 3 32 rfl hiA hzA0 hzA1 hzA2 rfl (by omega) ov out.length (out.flatMap Tok.cells) rfl hO3.out ⟨w.heap.size, 0, none⟩ 1 1 [.int .i64 1, .string (s.extract i j), .int .i64 i] rfl rfl hnews.out hone.out (by unfold maxLen; omega) (by omega) hsz2.out ?_)
           go_loud (
            intro v5 w5 ho5 hg5 _ hv5
            have hO7 : Hid (w5.ownsRow w0.heap.size 84 3 v5 (out.length + 1) (out.flatMap Tok.cells ++ [.int .i64 1, .string (s.extract i j), .int .i64 i])) := Lib.hid ho5
            have hB7 : Hid (Below w0.heap.size w0 w5) := Lib.hid (hB3.out.trans ((Writes.of_grown hg5 (M := [ov.ownBlock]) (by simp)).below hB3.out.size (fun q hq => ownK_ge hO3.out (List.mem_singleton.1 hq).symm)))
            clear ho5 hg5 hv5))
         have hL2 : TokL s R f' (j) (out ++ [⟨1, (s.data.toList.drop i).take (j - i), i⟩]) v5 w0 w5 := ⟨hfin.out, by omega, by rw [List.length_append, List.length_singleton]; omega, by
          rw [List.length_append, List.flatMap_append]
          have hx := hO7.out
          rw [hext.out] at hx
          exact hx, hB7.out⟩
         refine ⟨?_, by simp [Wmu, intOf]; omega⟩
         unfold WI
         refine ⟨_, _, _, _, _, _, _, _, _, _, _, _, _, _, _, _, _, _, _, _, _, _, _, _, _, _, _, _, _, _, _, _, _, _, _, _, _, _, _, _, _, _, _, _, _, _, _, _, _, _, _, _, _, _, _, _, _, _, _, _, _, _, _, _, _, _, _, _, _, _, _, _, _, _, _, _, _, _, _, _, _, _, _, _, _, _, _, _, _, _, _, _, _, _, _, _, _, _, _, _, _, _, _, _, _, _, _, _, _, _, _, _, _, _, _, _, _, _, _, _, _, _, _, _, _, _, _, _, _, _, _, _, _, _, _, _, _, _, _, _, _, _, _, _, _, _, _, _, _, _, _, _, _, _, _, _, _, _, _, _, _, _, _, _, _, _, _, _, _, _, _, _, _, _, _, _, _, _, _, _, _, _, _, _, _, _, _, _, _, _, _, _, _, _, _, _, _, _, _, _, _, _, _, _, _, _, _, _, _, _, _, _, _, _, _, _, _, _, _, _, _, _, _, _, ?_, rfl⟩
         exact ⟨f', j, _, hj, rfl, hL2⟩
       ·have hq0 : ((c.toNat : Int) == 48) = false := by simp; omega
        have hgo4 := hgo3
        rw [if_neg (by simp [hc0])] at hgo4
        clear hgo3 hc0
        have hfin := Lib.hid hgo4
        have hext : Hid (s.extract i j = strV ((s.data.toList.drop i).take (j - i))) := Lib.hid (extract_strV s i j)
        have c1 : (i : Int) ≤ (j : Int) := by omega
        have c2 : (j : Int) ≤ (s.size : Int) := by omega
        clear hgo4
        have hbn := below_new w (.cells #[.int .i64 1, .string (s.extract i j), .int .i64 i] 84)
        have hO3 := Lib.hid (own_below hL.out.own hbn)
        have hnews : Hid (∀ (q : Nat) u, ([.int .i64 1, .string (s.extract i j), .int .i64 i] : List Value)[q]? = some u → (w.alloc (.cells #[.int .i64 1, .string (s.extract i j), .int .i64 i] 84)).cell? ((⟨w.heap.size, 0, none⟩ : Addr).add q) = some u) := Lib.hid (fun q u hu => by
         have hh := Holds.new w 84 #[.int .i64 1, .string (s.extract i j), .int .i64 i]
         have hadd : (⟨w.heap.size, 0, none⟩ : Addr).add q = ⟨w.heap.size, q, none⟩ := by unfold Addr.add; split <;> simp_all
         rw [hadd, hh.cell]
         simpa using hu)
        have hone : Hid (∀ u ∈ ([.int .i64 1, .string (s.extract i j), .int .i64 i] : List Value), u.oneCell' = true) := Lib.hid (by simp; exact ⟨rfl, rfl, rfl⟩)
        have hsz2 : Hid (w0.heap.size ≤ (w.alloc (.cells #[.int .i64 1, .string (s.extract i j), .int .i64 i] 84)).heap.size) := Lib.hid (Nat.le_trans hL.out.bel.size hbn.size)
        have hB3 := Lib.hid (hL.out.bel.trans (hbn.mono hL.out.bel.size))
        clear hbn
        obtain ⟨iA, hiA, hzA0, hzA1, hzA2⟩ := info_parts Try.infoTok
        go_wp2_with fail
        refine hld.out.mono ?_
        rintro e w' ⟨rfl, rfl⟩
        go_wp2_with
         (at_builtin
          go_loud (refine wpList_append_own_at _ rfl (.tmp 219) (.tmp 226) 46 rfl w0.heap.size 84 iA _ 3 32 rfl hiA hzA0 hzA1 hzA2 rfl (by omega) ov out.length (out.flatMap Tok.cells) rfl hO3.out ⟨w.heap.size, 0, none⟩ 1 1 [.int .i64 1, .string (s.extract i j), .int .i64 i] rfl rfl hnews.out hone.out (by unfold maxLen; omega) (by omega) hsz2.out ?_)
          go_loud (
           intro v5 w5 ho5 hg5 _ hv5
           have hO7 : Hid (w5.ownsRow w0.heap.size 84 3 v5 (out.length + 1) (out.flatMap Tok.cells ++ [.int .i64 1, .string (s.extract i j), .int .i64 i])) := Lib.hid ho5
           have hB7 : Hid (Below w0.heap.size w0 w5) := Lib.hid (hB3.out.trans ((Writes.of_grown hg5 (M := [ov.ownBlock]) (by simp)).below hB3.out.size (fun q hq => ownK_ge hO3.out (List.mem_singleton.1 hq).symm)))
           clear ho5 hg5 hv5))
        have hL2 : TokL s R f' (j) (out ++ [⟨1, (s.data.toList.drop i).take (j - i), i⟩]) v5 w0 w5 := ⟨hfin.out, by omega, by rw [List.length_append, List.length_singleton]; omega, by
         rw [List.length_append, List.flatMap_append]
         have hx := hO7.out
         rw [hext.out] at hx
         exact hx, hB7.out⟩
        refine ⟨?_, by simp [Wmu, intOf]; omega⟩
        unfold WI
        refine ⟨_, _, _, _, _, _, _, _, _, _, _, _, _, _, _, _, _, _, _, _, _, _, _, _, _, _, _, _, _, _, _, _, _, _, _, _, _, _, _, _, _, _, _, _, _, _, _, _, _, _, _, _, _, _, _, _, _, _, _, _, _, _, _, _, _, _, _, _, _, _, _, _, _, _, _, _, _, _, _, _, _, _, _, _, _, _, _, _, _, _, _, _, _, _, _, _, _, _, _, _, _, _, _, _, _, _, _, _, _, _, _, _, _, _, _, _, _, _, _, _, _, _, _, _, _, _, _, _, _, _, _, _, _, _, _, _, _, _, _, _, _, _, _, _, _, _, _, _, _, _, _, _, _, _, _, _, _, _, _, _, _, _, _, _, _, _, _, _, _, _, _, _, _, _, _, _, _, _, _, _, _, _, _, _, _, _, _, _, _, _, _, _, _, _, _, _, _, _, _, _, _, _, _, _, _, _, _, _, _, _, _, _, _, _, _, _, _, _, _, _, _, _, _, _, ?_, rfl⟩
        exact ⟨f', j, _, hj, rfl, hL2⟩

  ·have hz : span_ digC (s.data.toList.drop j) = 0 := by rw [List.drop_of_length_le (by simp; omega)]; rfl
   have hdz : s.data.toList.drop j = [] := List.drop_of_length_le (by simp; omega)
   have hk : Hid (span_ digC (s.data.toList.drop i) = j - i) := Lib.hid (by have := hsp.out; omega)
   have h1 : Hid (1 ≤ span_ digC (s.data.toList.drop i)) := Lib.hid (by rw [hdr.out, span_cons_yes hd.out]; omega)
   have hij2 : i < j := by have := h1.out; rw [hk.out] at this; omega
   have hsub : IntKind.i64.wrap ((j : Int) - (i : Int)) = (j : Int) - (i : Int) := IntWalk.i64_in _ (by omega)
   have hnum2 : numG ((s.data.toList.drop i).take (span_ digC (s.data.toList.drop i))) 0 false = (n, g) := by rw [hnum.out, hz]; rfl
   have hgo3 := hgo2.out
   rw [← hdr.out, hnum2, hk.out, List.drop_drop, show i + (j - i) = j by omega] at hgo3
   have hdz2 := hdz
   cases g with
   | true =>
    have hgo4 : ([], i, 53) = R := by rw [if_pos (by simp)] at hgo3; exact hgo3
    clear hgo3 hdz hdz2 hz hsp hnum hnum2
    replace hgo4 := Lib.hid hgo4
    go_wp2_with fail
    unfold WE
    refine ⟨_, _, _, _, _, _, _, _, _, _, _, _, _, _, _, _, _, _, _, _, _, _, _, _, _, _, _, _, _, _, _, _, _, _, _, _, _, _, _, _, _, _, _, _, _, _, _, _, _, _, _, _, _, _, _, _, _, _, _, _, _, _, _, _, _, _, _, _, _, _, _, _, _, _, _, _, _, _, _, _, _, _, _, _, _, _, _, _, _, _, _, _, _, _, _, _, _, _, _, _, _, _, _, _, _, _, _, _, _, _, _, _, _, _, _, _, _, _, _, _, _, _, _, _, _, _, _, _, _, _, _, _, _, _, _, _, _, _, _, _, _, _, _, _, _, _, _, _, _, _, _, _, _, _, _, _, _, _, _, _, _, _, _, _, _, _, _, _, _, _, _, _, _, _, _, _, _, _, _, _, _, _, _, _, _, _, _, _, _, _, _, _, _, _, _, _, _, _, _, _, _, _, _, _, _, _, _, _, _, _, _, _, _, _, _, _, _, _, _, _, _, _, _, _, _, _, ?_, rfl⟩
    exact ⟨hgo4.out.symm, hL.out.bel⟩
   | false =>
    by_cases hbg : 9223372036854775807 < n
    ·have hbg' : (9223372036854775807 : Int) < (n : Int) := by omega
     have hgo4 : ([], i, 53) = R := by rw [if_pos (by simp [hbg])] at hgo3; exact hgo3
     clear hgo3 hdz hdz2 hz hsp hnum hnum2
     replace hgo4 := Lib.hid hgo4
     go_wp2_with fail
     unfold WE
     refine ⟨_, _, _, _, _, _, _, _, _, _, _, _, _, _, _, _, _, _, _, _, _, _, _, _, _, _, _, _, _, _, _, _, _, _, _, _, _, _, _, _, _, _, _, _, _, _, _, _, _, _, _, _, _, _, _, _, _, _, _, _, _, _, _, _, _, _, _, _, _, _, _, _, _, _, _, _, _, _, _, _, _, _, _, _, _, _, _, _, _, _, _, _, _, _, _, _, _, _, _, _, _, _, _, _, _, _, _, _, _, _, _, _, _, _, _, _, _, _, _, _, _, _, _, _, _, _, _, _, _, _, _, _, _, _, _, _, _, _, _, _, _, _, _, _, _, _, _, _, _, _, _, _, _, _, _, _, _, _, _, _, _, _, _, _, _, _, _, _, _, _, _, _, _, _, _, _, _, _, _, _, _, _, _, _, _, _, _, _, _, _, _, _, _, _, _, _, _, _, _, _, _, _, _, _, _, _, _, _, _, _, _, _, _, _, _, _, _, _, _, _, _, _, _, _, _, _, ?_, rfl⟩
     exact ⟨hgo4.out.symm, hL.out.bel⟩
    ·have hbg' : ¬ (9223372036854775807 : Int) < (n : Int) := by omega
     rw [if_neg (by simp; omega)] at hgo3
     clear hz hsp hnum hnum2 hbg
     have hgo5 : (if (c.toNat == 48 && decide (1 < j - i)) = true then (([] : List Tok), i, 50) else lexL f' (s.data.toList.drop j) j (out ++ [⟨1, (s.data.toList.drop i).take (j - i), i⟩])) = R := by
      rw [← hgo3]
      rw [hdz, Bool.false_or]
     clear hgo3
     have hgo3 := hgo5
     clear hgo5
     clear hdz hdz2
     by_cases hc0 : c.toNat = 48
     ·have hq0 : ((c.toNat : Int) == 48) = true := by simp; omega
      by_cases h1j : 1 < j - i
      ·have h1j' : (1 : Int) < (j : Int) - (i : Int) := by omega
       have hgo4 : ([], i, 50) = R := by rw [if_pos (by simp [hc0, h1j])] at hgo3; exact hgo3
       clear hgo3 hc0
       replace hgo4 := Lib.hid hgo4
       go_wp2_with fail
       unfold WE
       refine ⟨_, _, _, _, _, _, _, _, _, _, _, _, _, _, _, _, _, _, _, _, _, _, _, _, _, _, _, _, _, _, _, _, _, _, _, _, _, _, _, _, _, _, _, _, _, _, _, _, _, _, _, _, _, _, _, _, _, _, _, _, _, _, _, _, _, _, _, _, _, _, _, _, _, _, _, _, _, _, _, _, _, _, _, _, _, _, _, _, _, _, _, _, _, _, _, _, _, _, _, _, _, _, _, _, _, _, _, _, _, _, _, _, _, _, _, _, _, _, _, _, _, _, _, _, _, _, _, _, _, _, _, _, _, _, _, _, _, _, _, _, _, _, _, _, _, _, _, _, _, _, _, _, _, _, _, _, _, _, _, _, _, _, _, _, _, _, _, _, _, _, _, _, _, _, _, _, _, _, _, _, _, _, _, _, _, _, _, _, _, _, _, _, _, _, _, _, _, _, _, _, _, _, _, _, _, _, _, _, _, _, _, _, _, _, _, _, _, _, _, _, _, _, _, _, _, _, ?_, rfl⟩
       exact ⟨hgo4.out.symm, hL.out.bel⟩
      ·have h1j' : ¬ (1 : Int) < (j : Int) - (i : Int) := by omega
       have hgo4 := hgo3
       rw [if_neg (by simp [h1j])] at hgo4
       clear hgo3 hc0
       have hfin := Lib.hid hgo4
       have hext : Hid (s.extract i j = strV ((s.data.toList.drop i).take (j - i))) := Lib.hid (extract_strV s i j)
       have c1 : (i : Int) ≤ (j : Int) := by omega
       have c2 : (j : Int) ≤ (s.size : Int) := by omega
       clear hgo4
       have hbn := below_new w (.cells #[.int .i64 1, .string (s.extract i j), .int .i64 i] 84)
       have hO3 := Lib.hid (own_below hL.out.own hbn)
       have hnews : Hid (∀ (q : Nat) u, ([.int .i64 1, .string (s.extract i j), .int .i64 i] : List Value)[q]? = some u → (w.alloc (.cells #[.int .i64 1, .string (s.extract i j), .int .i64 i] 84)).cell? ((⟨w.heap.size, 0, none⟩ : Addr).add q) = some u) := Lib.hid (fun q u hu => by
        have hh := Holds.new w 84 #[.int .i64 1, .string (s.extract i j), .int .i64 i]
        have hadd : (⟨w.heap.size, 0, none⟩ : Addr).add q = ⟨w.heap.size, q, none⟩ := by unfold Addr.add; split <;> simp_all
        rw [hadd, hh.cell]
        simpa using hu)
       have hone : Hid (∀ u ∈ ([.int .i64 1, .string (s.extract i j), .int .i64 i] : List Value), u.oneCell' = true) := Lib.hid (by simp; exact ⟨rfl, rfl, rfl⟩)
       have hsz2 : Hid (w0.heap.size ≤ (w.alloc (.cells #[.int .i64 1, .string (s.extract i j), .int .i64 i] 84)).heap.size) := Lib.hid (Nat.le_trans hL.out.bel.size hbn.size)
       have hB3 := Lib.hid (hL.out.bel.trans (hbn.mono hL.out.bel.size))
       clear hbn
       obtain ⟨iA, hiA, hzA0, hzA1, hzA2⟩ := info_parts Try.infoTok
       go_wp2_with
        (at_builtin
         go_loud (refine wpList_append_own_at _ rfl (.tmp 219) (.tmp 226) 46 rfl w0.heap.size 84 iA _ 3 32 rfl hiA hzA0 hzA1 hzA2 rfl (by omega) ov out.length (out.flatMap Tok.cells) rfl hO3.out ⟨w.heap.size, 0, none⟩ 1 1 [.int .i64 1, .string (s.extract i j), .int .i64 i] rfl rfl hnews.out hone.out (by unfold maxLen; omega) (by omega) hsz2.out ?_)
         go_loud (
          intro v5 w5 ho5 hg5 _ hv5
          have hO7 : Hid (w5.ownsRow w0.heap.size 84 3 v5 (out.length + 1) (out.flatMap Tok.cells ++ [.int .i64 1, .string (s.extract i j), .int .i64 i])) := Lib.hid ho5
          have hB7 : Hid (Below w0.heap.size w0 w5) := Lib.hid (hB3.out.trans ((Writes.of_grown hg5 (M := [ov.ownBlock]) (by simp)).below hB3.out.size (fun q hq => ownK_ge hO3.out (List.mem_singleton.1 hq).symm)))
          clear ho5 hg5 hv5))
       have hL2 : TokL s R f' (j) (out ++ [⟨1, (s.data.toList.drop i).take (j - i), i⟩]) v5 w0 w5 := ⟨hfin.out, by omega, by rw [List.length_append, List.length_singleton]; omega, by
        rw [List.length_append, List.flatMap_append]
        have hx := hO7.out
        rw [hext.out] at hx
        exact hx, hB7.out⟩
       refine ⟨?_, by simp [Wmu, intOf]; omega⟩
       unfold WI
       refine ⟨_, _, _, _, _, _, _, _, _, _, _, _, _, _, _, _, _, _, _, _, _, _, _, _, _, _, _, _, _, _, _, _, _, _, _, _, _, _, _, _, _, _, _, _, _, _, _, _, _, _, _, _, _, _, _, _, _, _, _, _, _, _, _, _, _, _, _, _, _, _, _, _, _, _, _, _, _, _, _, _, _, _, _, _, _, _, _, _, _, _, _, _, _, _, _, _, _, _, _, _, _, _, _, _, _, _, _, _, _, _, _, _, _, _, _, _, _, _, _, _, _, _, _, _, _, _, _, _, _, _, _, _, _, _, _, _, _, _, _, _, _, _, _, _, _, _, _, _, _, _, _, _, _, _, _, _, _, _, _, _, _, _, _, _, _, _, _, _, _, _, _, _, _, _, _, _, _, _, _, _, _, _, _, _, _, _, _, _, _, _, _, _, _, _, _, _, _, _, _, _, _, _, _, _, _, _, _, _, _, _, _, _, _, _, _, _, _, _, _, _, _, _, _, _, ?_, rfl⟩
       exact ⟨f', j, _, hj, rfl, hL2⟩
     ·have hq0 : ((c.toNat : Int) == 48) = false := by simp; omega
      have hgo4 := hgo3
      rw [if_neg (by simp [hc0])] at hgo4
      clear hgo3 hc0
      have hfin := Lib.hid hgo4
      have hext : Hid (s.extract i j = strV ((s.data.toList.drop i).take (j - i))) := Lib.hid (extract_strV s i j)
      have c1 : (i : Int) ≤ (j : Int) := by omega
      have c2 : (j : Int) ≤ (s.size : Int) := by omega
      clear hgo4
      have hbn := below_new w (.cells #[.int .i64 1, .string (s.extract i j), .int .i64 i] 84)
      have hO3 := Lib.hid (own_below hL.out.own hbn)
      have hnews : Hid (∀ (q : Nat) u, ([.int .i64 1, .string (s.extract i j), .int .i64 i] : List Value)[q]? = some u → (w.alloc (.cells #[.int .i64 1, .string (s.extract i j), .int .i64 i] 84)).cell? ((⟨w.heap.size, 0, none⟩ : Addr).add q) = some u) := Lib.hid (fun q u hu => by
       have hh := Holds.new w 84 #[.int .i64 1, .string (s.extract i j), .int .i64 i]
       have hadd : (⟨w.heap.size, 0, none⟩ : Addr).add q = ⟨w.heap.size, q, none⟩ := by unfold Addr.add; split <;> simp_all
       rw [hadd, hh.cell]
       simpa using hu)
      have hone : Hid (∀ u ∈ ([.int .i64 1, .string (s.extract i j), .int .i64 i] : List Value), u.oneCell' = true) := Lib.hid (by simp; exact ⟨rfl, rfl, rfl⟩)
      have hsz2 : Hid (w0.heap.size ≤ (w.alloc (.cells #[.int .i64 1, .string (s.extract i j), .int .i64 i] 84)).heap.size) := Lib.hid (Nat.le_trans hL.out.bel.size hbn.size)
      have hB3 := Lib.hid (hL.out.bel.trans (hbn.mono hL.out.bel.size))
      clear hbn
      obtain ⟨iA, hiA, hzA0, hzA1, hzA2⟩ := info_parts Try.infoTok
      go_wp2_with
       (at_builtin
        go_loud (refine wpList_append_own_at _ rfl (.tmp 219) (.tmp 226) 46 rfl w0.heap.size 84 iA _ 3 32 rfl hiA hzA0 hzA1 hzA2 rfl (by omega) ov out.length (out.flatMap Tok.cells) rfl hO3.out ⟨w.heap.size, 0, none⟩ 1 1 [.int .i64 1, .string (s.extract i j), .int .i64 i] rfl rfl hnews.out hone.out (by unfold maxLen; omega) (by omega) hsz2.out ?_)
        go_loud (
         intro v5 w5 ho5 hg5 _ hv5
         have hO7 : Hid (w5.ownsRow w0.heap.size 84 3 v5 (out.length + 1) (out.flatMap Tok.cells ++ [.int .i64 1, .string (s.extract i j), .int .i64 i])) := Lib.hid ho5
         have hB7 : Hid (Below w0.heap.size w0 w5) := Lib.hid (hB3.out.trans ((Writes.of_grown hg5 (M := [ov.ownBlock]) (by simp)).below hB3.out.size (fun q hq => ownK_ge hO3.out (List.mem_singleton.1 hq).symm)))
         clear ho5 hg5 hv5))
      have hL2 : TokL s R f' (j) (out ++ [⟨1, (s.data.toList.drop i).take (j - i), i⟩]) v5 w0 w5 := ⟨hfin.out, by omega, by rw [List.length_append, List.length_singleton]; omega, by
       rw [List.length_append, List.flatMap_append]
       have hx := hO7.out
       rw [hext.out] at hx
       exact hx, hB7.out⟩
      refine ⟨?_, by simp [Wmu, intOf]; omega⟩
      unfold WI
      refine ⟨_, _, _, _, _, _, _, _, _, _, _, _, _, _, _, _, _, _, _, _, _, _, _, _, _, _, _, _, _, _, _, _, _, _, _, _, _, _, _, _, _, _, _, _, _, _, _, _, _, _, _, _, _, _, _, _, _, _, _, _, _, _, _, _, _, _, _, _, _, _, _, _, _, _, _, _, _, _, _, _, _, _, _, _, _, _, _, _, _, _, _, _, _, _, _, _, _, _, _, _, _, _, _, _, _, _, _, _, _, _, _, _, _, _, _, _, _, _, _, _, _, _, _, _, _, _, _, _, _, _, _, _, _, _, _, _, _, _, _, _, _, _, _, _, _, _, _, _, _, _, _, _, _, _, _, _, _, _, _, _, _, _, _, _, _, _, _, _, _, _, _, _, _, _, _, _, _, _, _, _, _, _, _, _, _, _, _, _, _, _, _, _, _, _, _, _, _, _, _, _, _, _, _, _, _, _, _, _, _, _, _, _, _, _, _, _, _, _, _, _, _, _, _, _, ?_, rfl⟩
      exact ⟨f', j, _, hj, rfl, hL2⟩


end Go.Proofs.Ytpndglghpojjkaa
/- The walk of Tokens: its great loop, signs. -/
namespace Go.Proofs.Ytpndglghpojjkaa
open Go.RowKit Go.Deep

set_option maxRecDepth 1000000 in
set_option maxHeartbeats 8000000 in
theorem tok_two (s : ByteArray) (R : List Tok × Nat × Nat) (w0 w : World) (Q0 : Exit → Act → World → Prop) (f i : Nat) (out : List Tok) (ov u7 u8 u9 u10 u11 u12 u13 u14 u15 u16 u17 u18 u19 u20 u21 u22 u23 u24 u25 u26 u27 u28 u29 u30 u31 u32 u33 u34 u35 u36 u37 u38 u39 u40 u41 u42 u43 u44 u45 u46 u47 u48 u49 u50 u51 u52 u53 u54 u55 u56 u57 u58 u59 u60 u61 u62 u63 u64 u65 u66 u67 u68 u69 u70 u71 u72 u73 u74 u75 u76 u77 u78 u79 u80 u81 u82 u83 u84 u85 u86 u87 u88 u89 u90 u91 u92 u93 u94 u95 u96 u97 u98 u99 u100 u101 u102 u103 u104 u105 u106 u107 u108 u109 u110 u111 u112 u113 u114 u115 u116 u117 u118 u119 u120 u121 u122 u123 u124 u125 u126 u127 u128 u129 u130 u131 u132 u133 u134 u135 u136 u137 u138 u139 u140 u141 u142 u143 u144 u145 u146 u147 u148 u149 u150 u151 u152 u153 u154 u155 u156 u157 u158 u159 u160 u161 u162 u163 u164 u165 u166 u167 u168 u169 u170 u171 u172 u173 u174 u175 u176 u177 u178 u179 u180 u181 u182 u183 u184 u185 u186 u187 u188 u189 u190 u191 u192 u193 u194 u195 u196 u197 u198 u199 u200 u201 u202 u203 u204 u205 u206 u207 u208 u209 u210 u211 u212 u213 u214 u215 u216 u217 u218 u219 u220 u221 u222 u223 u224 u225 u226 u227 u228 : Value) (hs : s.size ≤ 4096) (hL : Hid (TokL s R f i out ov w0 w)) (hlt : i < s.size) (hws : wsC s[i] = false) (h35 : s[i].toNat ≠ 35) (hl : letC s[i] = false) (hd : digC s[i] = false) (hi2 : i + 2 ≤ s.size) (h2 : two_ (s.data.toList.drop i) = true) :
  Code.wp Try.prog tokBody (Exit.then (fun a2 w2 => WI s R w0 a2 w2 ∧ Wmu s a2 w2 < Wmu s ⟨#[.string s, undef, .slice none 0 0, .int .i64 0, .int .i64 0, ov, (.int .i64 i), u7, u8, u9, u10, u11, u12, u13, u14, u15, u16, u17, u18, u19, u20, u21, u22, u23, u24, u25, u26, u27, u28, u29, u30, u31, u32, u33, u34, u35, u36, u37, u38, u39, u40, u41, u42, u43, u44, u45, u46, u47, u48, u49, u50, u51, u52, u53, u54, u55, u56, u57, u58, u59, u60, u61, u62, u63, u64, u65, u66, u67, u68, u69, u70, u71, u72, u73, u74, u75, u76, u77, u78, u79, u80, u81, u82, u83, u84, u85, u86, u87, u88, u89, u90, u91, u92, u93, u94, u95, u96, u97, u98, u99, u100, u101, u102, u103, u104, u105, u106, u107, u108, u109, u110, u111, u112, u113, u114, u115, u116, u117, u118, u119, u120, u121, u122, u123, u124, u125, u126, u127, u128, u129, u130, u131, u132, u133, u134, u135, u136, u137, u138, u139, u140, u141, u142, u143, u144, u145, u146, u147, u148, u149, u150, u151, u152, u153, u154, u155, u156, u157, u158, u159, u160, u161, u162, u163, u164, u165, u166, u167, u168, u169, u170, u171, u172, u173, u174, u175, u176, u177, u178, u179, u180, u181, u182, u183, u184, u185, u186, u187, u188, u189, u190, u191, u192, u193, u194, u195, u196, u197, u198, u199, u200, u201, u202, u203, u204, u205, u206, u207, u208, u209, u210, u211, u212, u213, u214, u215, u216, u217, u218, u219, u220, u221, u222, u223, u224, u225, u226, u227, u228], []⟩ w) Q0) ⟨#[.string s, undef, .slice none 0 0, .int .i64 0, .int .i64 0, ov, (.int .i64 i), u7, u8, u9, u10, u11, u12, u13, u14, u15, u16, u17, u18, u19, u20, u21, u22, u23, u24, u25, u26, u27, u28, u29, u30, u31, u32, u33, u34, u35, u36, u37, u38, u39, u40, u41, u42, u43, u44, u45, u46, u47, u48, u49, u50, u51, u52, u53, u54, u55, u56, u57, u58, u59, u60, u61, u62, u63, u64, u65, u66, u67, u68, u69, u70, u71, u72, u73, u74, u75, u76, u77, u78, u79, u80, u81, u82, u83, u84, u85, u86, u87, u88, u89, u90, u91, u92, u93, u94, u95, u96, u97, u98, u99, u100, u101, u102, u103, u104, u105, u106, u107, u108, u109, u110, u111, u112, u113, u114, u115, u116, u117, u118, u119, u120, u121, u122, u123, u124, u125, u126, u127, u128, u129, u130, u131, u132, u133, u134, u135, u136, u137, u138, u139, u140, u141, u142, u143, u144, u145, u146, u147, u148, u149, u150, u151, u152, u153, u154, u155, u156, u157, u158, u159, u160, u161, u162, u163, u164, u165, u166, u167, u168, u169, u170, u171, u172, u173, u174, u175, u176, u177, u178, u179, u180, u181, u182, u183, u184, u185, u186, u187, u188, u189, u190, u191, u192, u193, u194, u195, u196, u197, u198, u199, u200, u201, u202, u203, u204, u205, u206, u207, u208, u209, u210, u211, u212, u213, u214, u215, u216, u217, u218, u219, u220, u221, u222, u223, u224, u225, u226, u227, u228], []⟩ w := by
 conv => arg 2; whnf
 obtain ⟨f', rfl, hgo⟩ := hL.out.go_ hlt
 obtain ⟨c, hc⟩ : ∃ c, s[i] = c := ⟨_, rfl⟩
 rw [hc] at hgo
 have hc3 := c.toNat_lt
 have hdr := drop_cons s i hlt
 rw [hc] at hdr
 replace hdr := Lib.hid hdr
 have hfu := hL.out.fuel
 have hlo := hL.out.len
 have hiw : IntKind.i64.wrap ((i : Int) + 1) = ((i + 1 : Nat) : Int) := by rw [IntWalk.i64_in _ (by omega)]; omega
 rw [hc] at hws
 have h32 : ((c.toNat : Int) == 32) = false := by unfold wsC at hws; simp at hws; simp; omega
 have h9 : ((c.toNat : Int) == 9) = false := by unfold wsC at hws; simp at hws; simp; omega
 have h13 : ((c.toNat : Int) == 13) = false := by unfold wsC at hws; simp at hws; simp; omega
 have h10 : ((c.toNat : Int) == 10) = false := by unfold wsC at hws; simp at hws; simp; omega
 rw [hc] at h35 hl hd
 have hi : i ≤ s.size := Nat.le_of_lt hlt
 have hq : ((c.toNat : Int) == 35) = false := by simp; omega
 have hgo2 := (lexL_sign hws h35 hl hd).symm.trans hgo
 rw [← hdr.out] at hgo2
 have hcl := letter_at w c
 rw [hl] at hcl
 have hcd := digit_at w c
 rw [hd] at hcd
 replace hcl := Lib.hid hcl
 replace hcd := Lib.hid hcd
 replace hws := Lib.hid hws
 replace hl := Lib.hid hl
 replace hd := Lib.hid hd
 clear hgo h35
 have p1 : IntKind.i64.wrap ((i : Int) + 2) = (i : Int) + 2 := IntWalk.i64_in _ (by omega)
 have p2 : (0 : Int) ≤ (i : Int) + 2 := by omega
 have p3 : ((i : Int) + 2).toNat = i + 2 := by omega
 have p4 : (0 : Int) ≤ (i : Int) + 1 := by omega
 have p5 : ((i : Int) + 1).toNat = i + 1 := by omega
 have p6 : (i : Int) + 1 ≤ (s.size : Int) := by omega
 have p7 : (i : Int) ≤ (i : Int) + 1 := by omega
 have p8 : (i : Int) ≤ (i : Int) + 2 := by omega
 rw [if_pos h2] at hgo2
 rw [List.drop_drop] at hgo2
 have hext : Hid (s.extract i (i + 2) = strV ((s.data.toList.drop i).take 2)) := Lib.hid (by rw [extract_strV]; congr 2; omega)
 have hsz : (s.extract i (i + 2)).size = 2 := by rw [ByteArray.size_extract]; omega
 have p9 : (i : Int) + 2 ≤ (s.size : Int) := by omega
 have hT : (s.data.toList.drop i).take 2 = [61, 61] ∨ (s.data.toList.drop i).take 2 = [33, 61] ∨ (s.data.toList.drop i).take 2 = [60, 61] ∨ (s.data.toList.drop i).take 2 = [62, 61] ∨ (s.data.toList.drop i).take 2 = [38, 38] ∨ (s.data.toList.drop i).take 2 = [124, 124] := by
  unfold two_ at h2
  simpa [or_assoc] using h2
 have hfin := Lib.hid hgo2
 clear hgo2 h2
 rcases hT with hT | hT | hT | hT | hT | hT
 all_goals
  have hx := strV_toList ((s.data.toList.drop i).take 2)
  rw [← hext.out, hT] at hx
  replace hT := Lib.hid hT
  have hbn := below_new w (.cells #[.int .i64 2, .string (s.extract i (i + 2)), .int .i64 i] 84)
  have hO3 := Lib.hid (own_below hL.out.own hbn)
  have hnews : Hid (∀ (q : Nat) u, ([.int .i64 2, .string (s.extract i (i + 2)), .int .i64 i] : List Value)[q]? = some u → (w.alloc (.cells #[.int .i64 2, .string (s.extract i (i + 2)), .int .i64 i] 84)).cell? ((⟨w.heap.size, 0, none⟩ : Addr).add q) = some u) := Lib.hid (fun q u hu => by
   have hh := Holds.new w 84 #[.int .i64 2, .string (s.extract i (i + 2)), .int .i64 i]
   have hadd : (⟨w.heap.size, 0, none⟩ : Addr).add q = ⟨w.heap.size, q, none⟩ := by unfold Addr.add; split <;> simp_all
   rw [hadd, hh.cell]
   simpa using hu)
  have hone : Hid (∀ u ∈ ([.int .i64 2, .string (s.extract i (i + 2)), .int .i64 i] : List Value), u.oneCell' = true) := Lib.hid (by simp; exact ⟨rfl, rfl, rfl⟩)
  have hsz2 : Hid (w0.heap.size ≤ (w.alloc (.cells #[.int .i64 2, .string (s.extract i (i + 2)), .int .i64 i] 84)).heap.size) := Lib.hid (Nat.le_trans hL.out.bel.size hbn.size)
  have hB3 := Lib.hid (hL.out.bel.trans (hbn.mono hL.out.bel.size))
  clear hbn
  obtain ⟨iA, hiA, hzA0, hzA1, hzA2⟩ := info_parts Try.infoTok
  go_wp2_with fail
  refine hcl.out.mono ?_
  rintro e w' ⟨rfl, rfl⟩
  go_wp2_with fail
  refine hcd.out.mono ?_
  rintro e w' ⟨rfl, rfl⟩
  go_wp2_with
   (at_builtin
    go_loud (refine wpList_append_own_at _ rfl (.tmp 94) (.tmp 98) 46 rfl w0.heap.size 84 iA _ 3 32 rfl hiA hzA0 hzA1 hzA2 rfl (by omega) ov out.length (out.flatMap Tok.cells) rfl hO3.out ⟨w.heap.size, 0, none⟩ 1 1 [.int .i64 2, .string (s.extract i (i + 2)), .int .i64 i] rfl rfl hnews.out hone.out (by unfold maxLen; omega) (by omega) hsz2.out ?_)
    go_loud (
     intro v5 w5 ho5 hg5 _ hv5
     have hO7 : Hid (w5.ownsRow w0.heap.size 84 3 v5 (out.length + 1) (out.flatMap Tok.cells ++ [.int .i64 2, .string (s.extract i (i + 2)), .int .i64 i])) := Lib.hid ho5
     have hB7 : Hid (Below w0.heap.size w0 w5) := Lib.hid (hB3.out.trans ((Writes.of_grown hg5 (M := [ov.ownBlock]) (by simp)).below hB3.out.size (fun q hq => ownK_ge hO3.out (List.mem_singleton.1 hq).symm)))
     clear ho5 hg5 hv5))
  have hL2 : TokL s R f' (i + 2) (out ++ [⟨2, (s.data.toList.drop i).take 2, i⟩]) v5 w0 w5 := ⟨hfin.out, by omega, by rw [List.length_append, List.length_singleton]; omega, by
   rw [List.length_append, List.flatMap_append]
   have hx := hO7.out
   rw [hext.out] at hx
   exact hx, hB7.out⟩
  refine ⟨?_, by simp [Wmu, intOf]; omega⟩
  unfold WI
  refine ⟨_, _, _, _, _, _, _, _, _, _, _, _, _, _, _, _, _, _, _, _, _, _, _, _, _, _, _, _, _, _, _, _, _, _, _, _, _, _, _, _, _, _, _, _, _, _, _, _, _, _, _, _, _, _, _, _, _, _, _, _, _, _, _, _, _, _, _, _, _, _, _, _, _, _, _, _, _, _, _, _, _, _, _, _, _, _, _, _, _, _, _, _, _, _, _, _, _, _, _, _, _, _, _, _, _, _, _, _, _, _, _, _, _, _, _, _, _, _, _, _, _, _, _, _, _, _, _, _, _, _, _, _, _, _, _, _, _, _, _, _, _, _, _, _, _, _, _, _, _, _, _, _, _, _, _, _, _, _, _, _, _, _, _, _, _, _, _, _, _, _, _, _, _, _, _, _, _, _, _, _, _, _, _, _, _, _, _, _, _, _, _, _, _, _, _, _, _, _, _, _, _, _, _, _, _, _, _, _, _, _, _, _, _, _, _, _, _, _, _, _, _, _, _, _, ?_, rfl⟩
  exact ⟨f', i + 2, _, hi2, by simp, hL2⟩
set_option maxRecDepth 1000000 in
set_option maxHeartbeats 8000000 in
theorem tok_one (s : ByteArray) (R : List Tok × Nat × Nat) (w0 w : World) (Q0 : Exit → Act → World → Prop) (f i : Nat) (out : List Tok) (ov u7 u8 u9 u10 u11 u12 u13 u14 u15 u16 u17 u18 u19 u20 u21 u22 u23 u24 u25 u26 u27 u28 u29 u30 u31 u32 u33 u34 u35 u36 u37 u38 u39 u40 u41 u42 u43 u44 u45 u46 u47 u48 u49 u50 u51 u52 u53 u54 u55 u56 u57 u58 u59 u60 u61 u62 u63 u64 u65 u66 u67 u68 u69 u70 u71 u72 u73 u74 u75 u76 u77 u78 u79 u80 u81 u82 u83 u84 u85 u86 u87 u88 u89 u90 u91 u92 u93 u94 u95 u96 u97 u98 u99 u100 u101 u102 u103 u104 u105 u106 u107 u108 u109 u110 u111 u112 u113 u114 u115 u116 u117 u118 u119 u120 u121 u122 u123 u124 u125 u126 u127 u128 u129 u130 u131 u132 u133 u134 u135 u136 u137 u138 u139 u140 u141 u142 u143 u144 u145 u146 u147 u148 u149 u150 u151 u152 u153 u154 u155 u156 u157 u158 u159 u160 u161 u162 u163 u164 u165 u166 u167 u168 u169 u170 u171 u172 u173 u174 u175 u176 u177 u178 u179 u180 u181 u182 u183 u184 u185 u186 u187 u188 u189 u190 u191 u192 u193 u194 u195 u196 u197 u198 u199 u200 u201 u202 u203 u204 u205 u206 u207 u208 u209 u210 u211 u212 u213 u214 u215 u216 u217 u218 u219 u220 u221 u222 u223 u224 u225 u226 u227 u228 : Value) (hs : s.size ≤ 4096) (hL : Hid (TokL s R f i out ov w0 w)) (hlt : i < s.size) (hws : wsC s[i] = false) (h35 : s[i].toNat ≠ 35) (hl : letC s[i] = false) (hd : digC s[i] = false) (h2 : two_ (s.data.toList.drop i) = false) (h1 : signs1.contains s[i] = true) :
  Code.wp Try.prog tokBody (Exit.then (fun a2 w2 => WI s R w0 a2 w2 ∧ Wmu s a2 w2 < Wmu s ⟨#[.string s, undef, .slice none 0 0, .int .i64 0, .int .i64 0, ov, (.int .i64 i), u7, u8, u9, u10, u11, u12, u13, u14, u15, u16, u17, u18, u19, u20, u21, u22, u23, u24, u25, u26, u27, u28, u29, u30, u31, u32, u33, u34, u35, u36, u37, u38, u39, u40, u41, u42, u43, u44, u45, u46, u47, u48, u49, u50, u51, u52, u53, u54, u55, u56, u57, u58, u59, u60, u61, u62, u63, u64, u65, u66, u67, u68, u69, u70, u71, u72, u73, u74, u75, u76, u77, u78, u79, u80, u81, u82, u83, u84, u85, u86, u87, u88, u89, u90, u91, u92, u93, u94, u95, u96, u97, u98, u99, u100, u101, u102, u103, u104, u105, u106, u107, u108, u109, u110, u111, u112, u113, u114, u115, u116, u117, u118, u119, u120, u121, u122, u123, u124, u125, u126, u127, u128, u129, u130, u131, u132, u133, u134, u135, u136, u137, u138, u139, u140, u141, u142, u143, u144, u145, u146, u147, u148, u149, u150, u151, u152, u153, u154, u155, u156, u157, u158, u159, u160, u161, u162, u163, u164, u165, u166, u167, u168, u169, u170, u171, u172, u173, u174, u175, u176, u177, u178, u179, u180, u181, u182, u183, u184, u185, u186, u187, u188, u189, u190, u191, u192, u193, u194, u195, u196, u197, u198, u199, u200, u201, u202, u203, u204, u205, u206, u207, u208, u209, u210, u211, u212, u213, u214, u215, u216, u217, u218, u219, u220, u221, u222, u223, u224, u225, u226, u227, u228], []⟩ w) Q0) ⟨#[.string s, undef, .slice none 0 0, .int .i64 0, .int .i64 0, ov, (.int .i64 i), u7, u8, u9, u10, u11, u12, u13, u14, u15, u16, u17, u18, u19, u20, u21, u22, u23, u24, u25, u26, u27, u28, u29, u30, u31, u32, u33, u34, u35, u36, u37, u38, u39, u40, u41, u42, u43, u44, u45, u46, u47, u48, u49, u50, u51, u52, u53, u54, u55, u56, u57, u58, u59, u60, u61, u62, u63, u64, u65, u66, u67, u68, u69, u70, u71, u72, u73, u74, u75, u76, u77, u78, u79, u80, u81, u82, u83, u84, u85, u86, u87, u88, u89, u90, u91, u92, u93, u94, u95, u96, u97, u98, u99, u100, u101, u102, u103, u104, u105, u106, u107, u108, u109, u110, u111, u112, u113, u114, u115, u116, u117, u118, u119, u120, u121, u122, u123, u124, u125, u126, u127, u128, u129, u130, u131, u132, u133, u134, u135, u136, u137, u138, u139, u140, u141, u142, u143, u144, u145, u146, u147, u148, u149, u150, u151, u152, u153, u154, u155, u156, u157, u158, u159, u160, u161, u162, u163, u164, u165, u166, u167, u168, u169, u170, u171, u172, u173, u174, u175, u176, u177, u178, u179, u180, u181, u182, u183, u184, u185, u186, u187, u188, u189, u190, u191, u192, u193, u194, u195, u196, u197, u198, u199, u200, u201, u202, u203, u204, u205, u206, u207, u208, u209, u210, u211, u212, u213, u214, u215, u216, u217, u218, u219, u220, u221, u222, u223, u224, u225, u226, u227, u228], []⟩ w := by
 conv => arg 2; whnf
 obtain ⟨f', rfl, hgo⟩ := hL.out.go_ hlt
 obtain ⟨c, hc⟩ : ∃ c, s[i] = c := ⟨_, rfl⟩
 rw [hc] at hgo
 have hc3 := c.toNat_lt
 have hdr := drop_cons s i hlt
 rw [hc] at hdr
 replace hdr := Lib.hid hdr
 have hfu := hL.out.fuel
 have hlo := hL.out.len
 have hiw : IntKind.i64.wrap ((i : Int) + 1) = ((i + 1 : Nat) : Int) := by rw [IntWalk.i64_in _ (by omega)]; omega
 rw [hc] at hws
 have h32 : ((c.toNat : Int) == 32) = false := by unfold wsC at hws; simp at hws; simp; omega
 have h9 : ((c.toNat : Int) == 9) = false := by unfold wsC at hws; simp at hws; simp; omega
 have h13 : ((c.toNat : Int) == 13) = false := by unfold wsC at hws; simp at hws; simp; omega
 have h10 : ((c.toNat : Int) == 10) = false := by unfold wsC at hws; simp at hws; simp; omega
 rw [hc] at h35 hl hd h1
 have hi : i ≤ s.size := Nat.le_of_lt hlt
 have hq : ((c.toNat : Int) == 35) = false := by simp; omega
 have hgo2 := (lexL_sign hws h35 hl hd).symm.trans hgo
 rw [← hdr.out] at hgo2
 have hcl := letter_at w c
 rw [hl] at hcl
 have hcd := digit_at w c
 rw [hd] at hcd
 replace hcl := Lib.hid hcl
 replace hcd := Lib.hid hcd
 replace hws := Lib.hid hws
 replace hl := Lib.hid hl
 replace hd := Lib.hid hd
 clear hgo h35
 have p1 : IntKind.i64.wrap ((i : Int) + 2) = (i : Int) + 2 := IntWalk.i64_in _ (by omega)
 have p2 : (0 : Int) ≤ (i : Int) + 2 := by omega
 have p3 : ((i : Int) + 2).toNat = i + 2 := by omega
 have p4 : (0 : Int) ≤ (i : Int) + 1 := by omega
 have p5 : ((i : Int) + 1).toNat = i + 1 := by omega
 have p6 : (i : Int) + 1 ≤ (s.size : Int) := by omega
 have p7 : (i : Int) ≤ (i : Int) + 1 := by omega
 have p8 : (i : Int) ≤ (i : Int) + 2 := by omega
 rw [if_neg (by rw [h2]; simp)] at hgo2
 have hc1 := one_any w ⟨#[61, 60, 62, 43, 45, 42, 47, 37, 38, 33, 40, 41, 123, 125, 91, 93, 44, 59]⟩ c (by decide)
 rw [show (⟨#[61, 60, 62, 43, 45, 42, 47, 37, 38, 33, 40, 41, 123, 125, 91, 93, 44, 59]⟩ : ByteArray).data.toList.contains c = signs1.contains c from rfl] at hc1
 rw [if_pos h1] at hgo2
 rw [h1] at hc1
 have hc2 : Calls Try.prog 40 #[.string ⟨#[61, 60, 62, 43, 45, 42, 47, 37, 38, 33, 40, 41, 123, 125, 91, 93, 44, 59]⟩, .int .u8 c.toNat] w fun e w' => e = .returned (.bool true) ∧ w = w' := hc1.mono fun _ _ h => ⟨h.1, h.2.symm⟩
 replace hc2 := Lib.hid hc2
 clear hc1
 have hfin := Lib.hid hgo2
 have hext : Hid (s.extract i (i + 1) = strV [c]) := Lib.hid (by rw [extract_strV, hdr.out, show i + 1 - i = 1 by omega]; rfl)
 have hsz : (s.extract i (i + 1)).size = 1 := by rw [ByteArray.size_extract]; omega
 clear hgo2
 by_cases hi2 : i + 2 ≤ s.size
 ·have p9 : (i : Int) + 2 ≤ (s.size : Int) := by omega
  have hx : (s.extract i (i + 2)).toList = (s.data.toList.drop i).take 2 := by rw [extract_strV, strV_toList]; congr 1; omega
  have k0 : ((s.extract i (i + 2)).toList == [61, 61]) = false := by rw [hx]; unfold two_ at h2; simp only [Bool.or_eq_false_iff] at h2; exact h2.1.1.1.1.1
  have k1 : ((s.extract i (i + 2)).toList == [33, 61]) = false := by rw [hx]; unfold two_ at h2; simp only [Bool.or_eq_false_iff] at h2; exact h2.1.1.1.1.2
  have k2 : ((s.extract i (i + 2)).toList == [60, 61]) = false := by rw [hx]; unfold two_ at h2; simp only [Bool.or_eq_false_iff] at h2; exact h2.1.1.1.2
  have k3 : ((s.extract i (i + 2)).toList == [62, 61]) = false := by rw [hx]; unfold two_ at h2; simp only [Bool.or_eq_false_iff] at h2; exact h2.1.1.2
  have k4 : ((s.extract i (i + 2)).toList == [38, 38]) = false := by rw [hx]; unfold two_ at h2; simp only [Bool.or_eq_false_iff] at h2; exact h2.1.2
  have k5 : ((s.extract i (i + 2)).toList == [124, 124]) = false := by rw [hx]; unfold two_ at h2; simp only [Bool.or_eq_false_iff] at h2; exact h2.2
  clear hx h2 h1
  have hbn := below_new w (.cells #[.int .i64 2, .string (s.extract i (i + 1)), .int .i64 i] 84)
  have hO3 := Lib.hid (own_below hL.out.own hbn)
  have hnews : Hid (∀ (q : Nat) u, ([.int .i64 2, .string (s.extract i (i + 1)), .int .i64 i] : List Value)[q]? = some u → (w.alloc (.cells #[.int .i64 2, .string (s.extract i (i + 1)), .int .i64 i] 84)).cell? ((⟨w.heap.size, 0, none⟩ : Addr).add q) = some u) := Lib.hid (fun q u hu => by
   have hh := Holds.new w 84 #[.int .i64 2, .string (s.extract i (i + 1)), .int .i64 i]
   have hadd : (⟨w.heap.size, 0, none⟩ : Addr).add q = ⟨w.heap.size, q, none⟩ := by unfold Addr.add; split <;> simp_all
   rw [hadd, hh.cell]
   simpa using hu)
  have hone : Hid (∀ u ∈ ([.int .i64 2, .string (s.extract i (i + 1)), .int .i64 i] : List Value), u.oneCell' = true) := Lib.hid (by simp; exact ⟨rfl, rfl, rfl⟩)
  have hsz2 : Hid (w0.heap.size ≤ (w.alloc (.cells #[.int .i64 2, .string (s.extract i (i + 1)), .int .i64 i] 84)).heap.size) := Lib.hid (Nat.le_trans hL.out.bel.size hbn.size)
  have hB3 := Lib.hid (hL.out.bel.trans (hbn.mono hL.out.bel.size))
  clear hbn
  obtain ⟨iA, hiA, hzA0, hzA1, hzA2⟩ := info_parts Try.infoTok
  go_wp2_with fail
  refine hcl.out.mono ?_
  rintro e w' ⟨rfl, rfl⟩
  go_wp2_with fail
  refine hcd.out.mono ?_
  rintro e w' ⟨rfl, rfl⟩
  go_wp2_with fail
  refine hc2.out.mono ?_
  rintro e w' ⟨rfl, rfl⟩
  go_wp2_with
   (at_builtin
    go_loud (refine wpList_append_own_at _ rfl (.tmp 94) (.tmp 98) 46 rfl w0.heap.size 84 iA _ 3 32 rfl hiA hzA0 hzA1 hzA2 rfl (by omega) ov out.length (out.flatMap Tok.cells) rfl hO3.out ⟨w.heap.size, 0, none⟩ 1 1 [.int .i64 2, .string (s.extract i (i + 1)), .int .i64 i] rfl rfl hnews.out hone.out (by unfold maxLen; omega) (by omega) hsz2.out ?_)
    go_loud (
     intro v5 w5 ho5 hg5 _ hv5
     have hO7 : Hid (w5.ownsRow w0.heap.size 84 3 v5 (out.length + 1) (out.flatMap Tok.cells ++ [.int .i64 2, .string (s.extract i (i + 1)), .int .i64 i])) := Lib.hid ho5
     have hB7 : Hid (Below w0.heap.size w0 w5) := Lib.hid (hB3.out.trans ((Writes.of_grown hg5 (M := [ov.ownBlock]) (by simp)).below hB3.out.size (fun q hq => ownK_ge hO3.out (List.mem_singleton.1 hq).symm)))
     clear ho5 hg5 hv5))
  have hL2 : TokL s R f' (i + 1) (out ++ [⟨2, [c], i⟩]) v5 w0 w5 := ⟨hfin.out, by omega, by rw [List.length_append, List.length_singleton]; omega, by
   rw [List.length_append, List.flatMap_append]
   have hx := hO7.out
   rw [hext.out] at hx
   exact hx, hB7.out⟩
  refine ⟨?_, by simp [Wmu, intOf]; omega⟩
  unfold WI
  refine ⟨_, _, _, _, _, _, _, _, _, _, _, _, _, _, _, _, _, _, _, _, _, _, _, _, _, _, _, _, _, _, _, _, _, _, _, _, _, _, _, _, _, _, _, _, _, _, _, _, _, _, _, _, _, _, _, _, _, _, _, _, _, _, _, _, _, _, _, _, _, _, _, _, _, _, _, _, _, _, _, _, _, _, _, _, _, _, _, _, _, _, _, _, _, _, _, _, _, _, _, _, _, _, _, _, _, _, _, _, _, _, _, _, _, _, _, _, _, _, _, _, _, _, _, _, _, _, _, _, _, _, _, _, _, _, _, _, _, _, _, _, _, _, _, _, _, _, _, _, _, _, _, _, _, _, _, _, _, _, _, _, _, _, _, _, _, _, _, _, _, _, _, _, _, _, _, _, _, _, _, _, _, _, _, _, _, _, _, _, _, _, _, _, _, _, _, _, _, _, _, _, _, _, _, _, _, _, _, _, _, _, _, _, _, _, _, _, _, _, _, _, _, _, _, _, ?_, rfl⟩
  exact ⟨f', i + 1, _, by omega, by simp, hL2⟩
 ·have p9 : ¬ (i : Int) + 2 ≤ (s.size : Int) := by omega
  clear h2 h1
  have hbn := below_new w (.cells #[.int .i64 2, .string (s.extract i (i + 1)), .int .i64 i] 84)
  have hO3 := Lib.hid (own_below hL.out.own hbn)
  have hnews : Hid (∀ (q : Nat) u, ([.int .i64 2, .string (s.extract i (i + 1)), .int .i64 i] : List Value)[q]? = some u → (w.alloc (.cells #[.int .i64 2, .string (s.extract i (i + 1)), .int .i64 i] 84)).cell? ((⟨w.heap.size, 0, none⟩ : Addr).add q) = some u) := Lib.hid (fun q u hu => by
   have hh := Holds.new w 84 #[.int .i64 2, .string (s.extract i (i + 1)), .int .i64 i]
   have hadd : (⟨w.heap.size, 0, none⟩ : Addr).add q = ⟨w.heap.size, q, none⟩ := by unfold Addr.add; split <;> simp_all
   rw [hadd, hh.cell]
   simpa using hu)
  have hone : Hid (∀ u ∈ ([.int .i64 2, .string (s.extract i (i + 1)), .int .i64 i] : List Value), u.oneCell' = true) := Lib.hid (by simp; exact ⟨rfl, rfl, rfl⟩)
  have hsz2 : Hid (w0.heap.size ≤ (w.alloc (.cells #[.int .i64 2, .string (s.extract i (i + 1)), .int .i64 i] 84)).heap.size) := Lib.hid (Nat.le_trans hL.out.bel.size hbn.size)
  have hB3 := Lib.hid (hL.out.bel.trans (hbn.mono hL.out.bel.size))
  clear hbn
  obtain ⟨iA, hiA, hzA0, hzA1, hzA2⟩ := info_parts Try.infoTok
  go_wp2_with fail
  refine hcl.out.mono ?_
  rintro e w' ⟨rfl, rfl⟩
  go_wp2_with fail
  refine hcd.out.mono ?_
  rintro e w' ⟨rfl, rfl⟩
  go_wp2_with fail
  refine hc2.out.mono ?_
  rintro e w' ⟨rfl, rfl⟩
  go_wp2_with
   (at_builtin
    go_loud (refine wpList_append_own_at _ rfl (.tmp 94) (.tmp 98) 46 rfl w0.heap.size 84 iA _ 3 32 rfl hiA hzA0 hzA1 hzA2 rfl (by omega) ov out.length (out.flatMap Tok.cells) rfl hO3.out ⟨w.heap.size, 0, none⟩ 1 1 [.int .i64 2, .string (s.extract i (i + 1)), .int .i64 i] rfl rfl hnews.out hone.out (by unfold maxLen; omega) (by omega) hsz2.out ?_)
    go_loud (
     intro v5 w5 ho5 hg5 _ hv5
     have hO7 : Hid (w5.ownsRow w0.heap.size 84 3 v5 (out.length + 1) (out.flatMap Tok.cells ++ [.int .i64 2, .string (s.extract i (i + 1)), .int .i64 i])) := Lib.hid ho5
     have hB7 : Hid (Below w0.heap.size w0 w5) := Lib.hid (hB3.out.trans ((Writes.of_grown hg5 (M := [ov.ownBlock]) (by simp)).below hB3.out.size (fun q hq => ownK_ge hO3.out (List.mem_singleton.1 hq).symm)))
     clear ho5 hg5 hv5))
  have hL2 : TokL s R f' (i + 1) (out ++ [⟨2, [c], i⟩]) v5 w0 w5 := ⟨hfin.out, by omega, by rw [List.length_append, List.length_singleton]; omega, by
   rw [List.length_append, List.flatMap_append]
   have hx := hO7.out
   rw [hext.out] at hx
   exact hx, hB7.out⟩
  refine ⟨?_, by simp [Wmu, intOf]; omega⟩
  unfold WI
  refine ⟨_, _, _, _, _, _, _, _, _, _, _, _, _, _, _, _, _, _, _, _, _, _, _, _, _, _, _, _, _, _, _, _, _, _, _, _, _, _, _, _, _, _, _, _, _, _, _, _, _, _, _, _, _, _, _, _, _, _, _, _, _, _, _, _, _, _, _, _, _, _, _, _, _, _, _, _, _, _, _, _, _, _, _, _, _, _, _, _, _, _, _, _, _, _, _, _, _, _, _, _, _, _, _, _, _, _, _, _, _, _, _, _, _, _, _, _, _, _, _, _, _, _, _, _, _, _, _, _, _, _, _, _, _, _, _, _, _, _, _, _, _, _, _, _, _, _, _, _, _, _, _, _, _, _, _, _, _, _, _, _, _, _, _, _, _, _, _, _, _, _, _, _, _, _, _, _, _, _, _, _, _, _, _, _, _, _, _, _, _, _, _, _, _, _, _, _, _, _, _, _, _, _, _, _, _, _, _, _, _, _, _, _, _, _, _, _, _, _, _, _, _, _, _, _, ?_, rfl⟩
  exact ⟨f', i + 1, _, by omega, by simp, hL2⟩

set_option maxRecDepth 1000000 in
set_option maxHeartbeats 8000000 in
theorem tok_bad (s : ByteArray) (R : List Tok × Nat × Nat) (w0 w : World) (Q0 : Exit → Act → World → Prop) (f i : Nat) (out : List Tok) (ov u7 u8 u9 u10 u11 u12 u13 u14 u15 u16 u17 u18 u19 u20 u21 u22 u23 u24 u25 u26 u27 u28 u29 u30 u31 u32 u33 u34 u35 u36 u37 u38 u39 u40 u41 u42 u43 u44 u45 u46 u47 u48 u49 u50 u51 u52 u53 u54 u55 u56 u57 u58 u59 u60 u61 u62 u63 u64 u65 u66 u67 u68 u69 u70 u71 u72 u73 u74 u75 u76 u77 u78 u79 u80 u81 u82 u83 u84 u85 u86 u87 u88 u89 u90 u91 u92 u93 u94 u95 u96 u97 u98 u99 u100 u101 u102 u103 u104 u105 u106 u107 u108 u109 u110 u111 u112 u113 u114 u115 u116 u117 u118 u119 u120 u121 u122 u123 u124 u125 u126 u127 u128 u129 u130 u131 u132 u133 u134 u135 u136 u137 u138 u139 u140 u141 u142 u143 u144 u145 u146 u147 u148 u149 u150 u151 u152 u153 u154 u155 u156 u157 u158 u159 u160 u161 u162 u163 u164 u165 u166 u167 u168 u169 u170 u171 u172 u173 u174 u175 u176 u177 u178 u179 u180 u181 u182 u183 u184 u185 u186 u187 u188 u189 u190 u191 u192 u193 u194 u195 u196 u197 u198 u199 u200 u201 u202 u203 u204 u205 u206 u207 u208 u209 u210 u211 u212 u213 u214 u215 u216 u217 u218 u219 u220 u221 u222 u223 u224 u225 u226 u227 u228 : Value) (hs : s.size ≤ 4096) (hL : Hid (TokL s R f i out ov w0 w)) (hlt : i < s.size) (hws : wsC s[i] = false) (h35 : s[i].toNat ≠ 35) (hl : letC s[i] = false) (hd : digC s[i] = false) (h2 : two_ (s.data.toList.drop i) = false) (h1 : signs1.contains s[i] = false) (hret : ∀ a2 w2, WE s R w0 a2 w2 → Q0 .ret a2 w2) :
  Code.wp Try.prog tokBody (Exit.then (fun a2 w2 => WI s R w0 a2 w2 ∧ Wmu s a2 w2 < Wmu s ⟨#[.string s, undef, .slice none 0 0, .int .i64 0, .int .i64 0, ov, (.int .i64 i), u7, u8, u9, u10, u11, u12, u13, u14, u15, u16, u17, u18, u19, u20, u21, u22, u23, u24, u25, u26, u27, u28, u29, u30, u31, u32, u33, u34, u35, u36, u37, u38, u39, u40, u41, u42, u43, u44, u45, u46, u47, u48, u49, u50, u51, u52, u53, u54, u55, u56, u57, u58, u59, u60, u61, u62, u63, u64, u65, u66, u67, u68, u69, u70, u71, u72, u73, u74, u75, u76, u77, u78, u79, u80, u81, u82, u83, u84, u85, u86, u87, u88, u89, u90, u91, u92, u93, u94, u95, u96, u97, u98, u99, u100, u101, u102, u103, u104, u105, u106, u107, u108, u109, u110, u111, u112, u113, u114, u115, u116, u117, u118, u119, u120, u121, u122, u123, u124, u125, u126, u127, u128, u129, u130, u131, u132, u133, u134, u135, u136, u137, u138, u139, u140, u141, u142, u143, u144, u145, u146, u147, u148, u149, u150, u151, u152, u153, u154, u155, u156, u157, u158, u159, u160, u161, u162, u163, u164, u165, u166, u167, u168, u169, u170, u171, u172, u173, u174, u175, u176, u177, u178, u179, u180, u181, u182, u183, u184, u185, u186, u187, u188, u189, u190, u191, u192, u193, u194, u195, u196, u197, u198, u199, u200, u201, u202, u203, u204, u205, u206, u207, u208, u209, u210, u211, u212, u213, u214, u215, u216, u217, u218, u219, u220, u221, u222, u223, u224, u225, u226, u227, u228], []⟩ w) Q0) ⟨#[.string s, undef, .slice none 0 0, .int .i64 0, .int .i64 0, ov, (.int .i64 i), u7, u8, u9, u10, u11, u12, u13, u14, u15, u16, u17, u18, u19, u20, u21, u22, u23, u24, u25, u26, u27, u28, u29, u30, u31, u32, u33, u34, u35, u36, u37, u38, u39, u40, u41, u42, u43, u44, u45, u46, u47, u48, u49, u50, u51, u52, u53, u54, u55, u56, u57, u58, u59, u60, u61, u62, u63, u64, u65, u66, u67, u68, u69, u70, u71, u72, u73, u74, u75, u76, u77, u78, u79, u80, u81, u82, u83, u84, u85, u86, u87, u88, u89, u90, u91, u92, u93, u94, u95, u96, u97, u98, u99, u100, u101, u102, u103, u104, u105, u106, u107, u108, u109, u110, u111, u112, u113, u114, u115, u116, u117, u118, u119, u120, u121, u122, u123, u124, u125, u126, u127, u128, u129, u130, u131, u132, u133, u134, u135, u136, u137, u138, u139, u140, u141, u142, u143, u144, u145, u146, u147, u148, u149, u150, u151, u152, u153, u154, u155, u156, u157, u158, u159, u160, u161, u162, u163, u164, u165, u166, u167, u168, u169, u170, u171, u172, u173, u174, u175, u176, u177, u178, u179, u180, u181, u182, u183, u184, u185, u186, u187, u188, u189, u190, u191, u192, u193, u194, u195, u196, u197, u198, u199, u200, u201, u202, u203, u204, u205, u206, u207, u208, u209, u210, u211, u212, u213, u214, u215, u216, u217, u218, u219, u220, u221, u222, u223, u224, u225, u226, u227, u228], []⟩ w := by
 conv => arg 2; whnf
 obtain ⟨f', rfl, hgo⟩ := hL.out.go_ hlt
 obtain ⟨c, hc⟩ : ∃ c, s[i] = c := ⟨_, rfl⟩
 rw [hc] at hgo
 have hc3 := c.toNat_lt
 have hdr := drop_cons s i hlt
 rw [hc] at hdr
 replace hdr := Lib.hid hdr
 have hfu := hL.out.fuel
 have hlo := hL.out.len
 have hiw : IntKind.i64.wrap ((i : Int) + 1) = ((i + 1 : Nat) : Int) := by rw [IntWalk.i64_in _ (by omega)]; omega
 rw [hc] at hws
 have h32 : ((c.toNat : Int) == 32) = false := by unfold wsC at hws; simp at hws; simp; omega
 have h9 : ((c.toNat : Int) == 9) = false := by unfold wsC at hws; simp at hws; simp; omega
 have h13 : ((c.toNat : Int) == 13) = false := by unfold wsC at hws; simp at hws; simp; omega
 have h10 : ((c.toNat : Int) == 10) = false := by unfold wsC at hws; simp at hws; simp; omega
 rw [hc] at h35 hl hd h1
 have hi : i ≤ s.size := Nat.le_of_lt hlt
 have hq : ((c.toNat : Int) == 35) = false := by simp; omega
 have hgo2 := (lexL_sign hws h35 hl hd).symm.trans hgo
 rw [← hdr.out] at hgo2
 have hcl := letter_at w c
 rw [hl] at hcl
 have hcd := digit_at w c
 rw [hd] at hcd
 replace hcl := Lib.hid hcl
 replace hcd := Lib.hid hcd
 replace hws := Lib.hid hws
 replace hl := Lib.hid hl
 replace hd := Lib.hid hd
 clear hgo h35
 have p1 : IntKind.i64.wrap ((i : Int) + 2) = (i : Int) + 2 := IntWalk.i64_in _ (by omega)
 have p2 : (0 : Int) ≤ (i : Int) + 2 := by omega
 have p3 : ((i : Int) + 2).toNat = i + 2 := by omega
 have p4 : (0 : Int) ≤ (i : Int) + 1 := by omega
 have p5 : ((i : Int) + 1).toNat = i + 1 := by omega
 have p6 : (i : Int) + 1 ≤ (s.size : Int) := by omega
 have p7 : (i : Int) ≤ (i : Int) + 1 := by omega
 have p8 : (i : Int) ≤ (i : Int) + 2 := by omega
 rw [if_neg (by rw [h2]; simp)] at hgo2
 have hc1 := one_any w ⟨#[61, 60, 62, 43, 45, 42, 47, 37, 38, 33, 40, 41, 123, 125, 91, 93, 44, 59]⟩ c (by decide)
 rw [show (⟨#[61, 60, 62, 43, 45, 42, 47, 37, 38, 33, 40, 41, 123, 125, 91, 93, 44, 59]⟩ : ByteArray).data.toList.contains c = signs1.contains c from rfl] at hc1
 rw [if_neg (by rw [h1]; simp)] at hgo2
 rw [h1] at hc1
 have hc2 : Calls Try.prog 40 #[.string ⟨#[61, 60, 62, 43, 45, 42, 47, 37, 38, 33, 40, 41, 123, 125, 91, 93, 44, 59]⟩, .int .u8 c.toNat] w fun e w' => e = .returned (.bool false) ∧ w = w' := hc1.mono fun _ _ h => ⟨h.1, h.2.symm⟩
 replace hc2 := Lib.hid hc2
 clear hc1
 have hfin := Lib.hid hgo2
 have hext : Hid (s.extract i (i + 1) = strV [c]) := Lib.hid (by rw [extract_strV, hdr.out, show i + 1 - i = 1 by omega]; rfl)
 have hsz : (s.extract i (i + 1)).size = 1 := by rw [ByteArray.size_extract]; omega
 clear hgo2
 by_cases hi2 : i + 2 ≤ s.size
 ·have p9 : (i : Int) + 2 ≤ (s.size : Int) := by omega
  have hx : (s.extract i (i + 2)).toList = (s.data.toList.drop i).take 2 := by rw [extract_strV, strV_toList]; congr 1; omega
  have k0 : ((s.extract i (i + 2)).toList == [61, 61]) = false := by rw [hx]; unfold two_ at h2; simp only [Bool.or_eq_false_iff] at h2; exact h2.1.1.1.1.1
  have k1 : ((s.extract i (i + 2)).toList == [33, 61]) = false := by rw [hx]; unfold two_ at h2; simp only [Bool.or_eq_false_iff] at h2; exact h2.1.1.1.1.2
  have k2 : ((s.extract i (i + 2)).toList == [60, 61]) = false := by rw [hx]; unfold two_ at h2; simp only [Bool.or_eq_false_iff] at h2; exact h2.1.1.1.2
  have k3 : ((s.extract i (i + 2)).toList == [62, 61]) = false := by rw [hx]; unfold two_ at h2; simp only [Bool.or_eq_false_iff] at h2; exact h2.1.1.2
  have k4 : ((s.extract i (i + 2)).toList == [38, 38]) = false := by rw [hx]; unfold two_ at h2; simp only [Bool.or_eq_false_iff] at h2; exact h2.1.2
  have k5 : ((s.extract i (i + 2)).toList == [124, 124]) = false := by rw [hx]; unfold two_ at h2; simp only [Bool.or_eq_false_iff] at h2; exact h2.2
  clear hx h2 h1
  go_wp2_with fail
  refine hcl.out.mono ?_
  rintro e w' ⟨rfl, rfl⟩
  go_wp2_with fail
  refine hcd.out.mono ?_
  rintro e w' ⟨rfl, rfl⟩
  go_wp2_with fail
  refine hc2.out.mono ?_
  rintro e w' ⟨rfl, rfl⟩
  go_wp2_with fail
  unfold WE
  refine ⟨_, _, _, _, _, _, _, _, _, _, _, _, _, _, _, _, _, _, _, _, _, _, _, _, _, _, _, _, _, _, _, _, _, _, _, _, _, _, _, _, _, _, _, _, _, _, _, _, _, _, _, _, _, _, _, _, _, _, _, _, _, _, _, _, _, _, _, _, _, _, _, _, _, _, _, _, _, _, _, _, _, _, _, _, _, _, _, _, _, _, _, _, _, _, _, _, _, _, _, _, _, _, _, _, _, _, _, _, _, _, _, _, _, _, _, _, _, _, _, _, _, _, _, _, _, _, _, _, _, _, _, _, _, _, _, _, _, _, _, _, _, _, _, _, _, _, _, _, _, _, _, _, _, _, _, _, _, _, _, _, _, _, _, _, _, _, _, _, _, _, _, _, _, _, _, _, _, _, _, _, _, _, _, _, _, _, _, _, _, _, _, _, _, _, _, _, _, _, _, _, _, _, _, _, _, _, _, _, _, _, _, _, _, _, _, _, _, _, _, _, _, _, _, _, _, _, ?_, rfl⟩
  exact ⟨hfin.out.symm, hL.out.bel⟩
 ·have p9 : ¬ (i : Int) + 2 ≤ (s.size : Int) := by omega
  clear h2 h1
  go_wp2_with fail
  refine hcl.out.mono ?_
  rintro e w' ⟨rfl, rfl⟩
  go_wp2_with fail
  refine hcd.out.mono ?_
  rintro e w' ⟨rfl, rfl⟩
  go_wp2_with fail
  refine hc2.out.mono ?_
  rintro e w' ⟨rfl, rfl⟩
  go_wp2_with fail
  unfold WE
  refine ⟨_, _, _, _, _, _, _, _, _, _, _, _, _, _, _, _, _, _, _, _, _, _, _, _, _, _, _, _, _, _, _, _, _, _, _, _, _, _, _, _, _, _, _, _, _, _, _, _, _, _, _, _, _, _, _, _, _, _, _, _, _, _, _, _, _, _, _, _, _, _, _, _, _, _, _, _, _, _, _, _, _, _, _, _, _, _, _, _, _, _, _, _, _, _, _, _, _, _, _, _, _, _, _, _, _, _, _, _, _, _, _, _, _, _, _, _, _, _, _, _, _, _, _, _, _, _, _, _, _, _, _, _, _, _, _, _, _, _, _, _, _, _, _, _, _, _, _, _, _, _, _, _, _, _, _, _, _, _, _, _, _, _, _, _, _, _, _, _, _, _, _, _, _, _, _, _, _, _, _, _, _, _, _, _, _, _, _, _, _, _, _, _, _, _, _, _, _, _, _, _, _, _, _, _, _, _, _, _, _, _, _, _, _, _, _, _, _, _, _, _, _, _, _, _, _, _, ?_, rfl⟩
  exact ⟨hfin.out.symm, hL.out.bel⟩

set_option maxRecDepth 1000000 in
set_option maxHeartbeats 8000000 in
theorem tok_end (s : ByteArray) (R : List Tok × Nat × Nat) (w0 w : World) (Q0 : Exit → Act → World → Prop) (f i : Nat) (out : List Tok) (ov u7 u8 u9 u10 u11 u12 u13 u14 u15 u16 u17 u18 u19 u20 u21 u22 u23 u24 u25 u26 u27 u28 u29 u30 u31 u32 u33 u34 u35 u36 u37 u38 u39 u40 u41 u42 u43 u44 u45 u46 u47 u48 u49 u50 u51 u52 u53 u54 u55 u56 u57 u58 u59 u60 u61 u62 u63 u64 u65 u66 u67 u68 u69 u70 u71 u72 u73 u74 u75 u76 u77 u78 u79 u80 u81 u82 u83 u84 u85 u86 u87 u88 u89 u90 u91 u92 u93 u94 u95 u96 u97 u98 u99 u100 u101 u102 u103 u104 u105 u106 u107 u108 u109 u110 u111 u112 u113 u114 u115 u116 u117 u118 u119 u120 u121 u122 u123 u124 u125 u126 u127 u128 u129 u130 u131 u132 u133 u134 u135 u136 u137 u138 u139 u140 u141 u142 u143 u144 u145 u146 u147 u148 u149 u150 u151 u152 u153 u154 u155 u156 u157 u158 u159 u160 u161 u162 u163 u164 u165 u166 u167 u168 u169 u170 u171 u172 u173 u174 u175 u176 u177 u178 u179 u180 u181 u182 u183 u184 u185 u186 u187 u188 u189 u190 u191 u192 u193 u194 u195 u196 u197 u198 u199 u200 u201 u202 u203 u204 u205 u206 u207 u208 u209 u210 u211 u212 u213 u214 u215 u216 u217 u218 u219 u220 u221 u222 u223 u224 u225 u226 u227 u228 : Value) (_hs : s.size ≤ 4096) (hL : Hid (TokL s R f i out ov w0 w)) (hge : i = s.size) (hexit : ∀ a2 w2, WX s R w0 a2 w2 → Q0 (.exit 0) a2 w2) :
  Code.wp Try.prog tokBody (Exit.then (fun a2 w2 => WI s R w0 a2 w2 ∧ Wmu s a2 w2 < Wmu s ⟨#[.string s, undef, .slice none 0 0, .int .i64 0, .int .i64 0, ov, (.int .i64 i), u7, u8, u9, u10, u11, u12, u13, u14, u15, u16, u17, u18, u19, u20, u21, u22, u23, u24, u25, u26, u27, u28, u29, u30, u31, u32, u33, u34, u35, u36, u37, u38, u39, u40, u41, u42, u43, u44, u45, u46, u47, u48, u49, u50, u51, u52, u53, u54, u55, u56, u57, u58, u59, u60, u61, u62, u63, u64, u65, u66, u67, u68, u69, u70, u71, u72, u73, u74, u75, u76, u77, u78, u79, u80, u81, u82, u83, u84, u85, u86, u87, u88, u89, u90, u91, u92, u93, u94, u95, u96, u97, u98, u99, u100, u101, u102, u103, u104, u105, u106, u107, u108, u109, u110, u111, u112, u113, u114, u115, u116, u117, u118, u119, u120, u121, u122, u123, u124, u125, u126, u127, u128, u129, u130, u131, u132, u133, u134, u135, u136, u137, u138, u139, u140, u141, u142, u143, u144, u145, u146, u147, u148, u149, u150, u151, u152, u153, u154, u155, u156, u157, u158, u159, u160, u161, u162, u163, u164, u165, u166, u167, u168, u169, u170, u171, u172, u173, u174, u175, u176, u177, u178, u179, u180, u181, u182, u183, u184, u185, u186, u187, u188, u189, u190, u191, u192, u193, u194, u195, u196, u197, u198, u199, u200, u201, u202, u203, u204, u205, u206, u207, u208, u209, u210, u211, u212, u213, u214, u215, u216, u217, u218, u219, u220, u221, u222, u223, u224, u225, u226, u227, u228], []⟩ w) Q0) ⟨#[.string s, undef, .slice none 0 0, .int .i64 0, .int .i64 0, ov, (.int .i64 i), u7, u8, u9, u10, u11, u12, u13, u14, u15, u16, u17, u18, u19, u20, u21, u22, u23, u24, u25, u26, u27, u28, u29, u30, u31, u32, u33, u34, u35, u36, u37, u38, u39, u40, u41, u42, u43, u44, u45, u46, u47, u48, u49, u50, u51, u52, u53, u54, u55, u56, u57, u58, u59, u60, u61, u62, u63, u64, u65, u66, u67, u68, u69, u70, u71, u72, u73, u74, u75, u76, u77, u78, u79, u80, u81, u82, u83, u84, u85, u86, u87, u88, u89, u90, u91, u92, u93, u94, u95, u96, u97, u98, u99, u100, u101, u102, u103, u104, u105, u106, u107, u108, u109, u110, u111, u112, u113, u114, u115, u116, u117, u118, u119, u120, u121, u122, u123, u124, u125, u126, u127, u128, u129, u130, u131, u132, u133, u134, u135, u136, u137, u138, u139, u140, u141, u142, u143, u144, u145, u146, u147, u148, u149, u150, u151, u152, u153, u154, u155, u156, u157, u158, u159, u160, u161, u162, u163, u164, u165, u166, u167, u168, u169, u170, u171, u172, u173, u174, u175, u176, u177, u178, u179, u180, u181, u182, u183, u184, u185, u186, u187, u188, u189, u190, u191, u192, u193, u194, u195, u196, u197, u198, u199, u200, u201, u202, u203, u204, u205, u206, u207, u208, u209, u210, u211, u212, u213, u214, u215, u216, u217, u218, u219, u220, u221, u222, u223, u224, u225, u226, u227, u228], []⟩ w := by
 conv => arg 2; whnf
 subst hge
 have hF : Hid (R = (out, 0, 0)) := Lib.hid (by
  rw [← hL.out.eq, List.drop_of_length_le (by simp)]
  exact lexL_nil f s.size out)
 go_wp2_with fail
 unfold WX
 refine ⟨out, _, _, _, _, _, _, _, _, _, _, _, _, _, _, _, _, _, _, _, _, _, _, _, _, _, _, _, _, _, _, _, _, _, _, _, _, _, _, _, _, _, _, _, _, _, _, _, _, _, _, _, _, _, _, _, _, _, _, _, _, _, _, _, _, _, _, _, _, _, _, _, _, _, _, _, _, _, _, _, _, _, _, _, _, _, _, _, _, _, _, _, _, _, _, _, _, _, _, _, _, _, _, _, _, _, _, _, _, _, _, _, _, _, _, _, _, _, _, _, _, _, _, _, _, _, _, _, _, _, _, _, _, _, _, _, _, _, _, _, _, _, _, _, _, _, _, _, _, _, _, _, _, _, _, _, _, _, _, _, _, _, _, _, _, _, _, _, _, _, _, _, _, _, _, _, _, _, _, _, _, _, _, _, _, _, _, _, _, _, _, _, _, _, _, _, _, _, _, _, _, _, _, _, _, _, _, _, _, _, _, _, _, _, _, _, _, _, _, _, _, _, _, _, _, ?_, rfl⟩
 exact ⟨hF.out, hL.out.own, hL.out.bel⟩
end Go.Proofs.Ytpndglghpojjkaa
/- The walk of Tokens: its great loop, a round, joined. -/
namespace Go.Proofs.Ytpndglghpojjkaa
open Go.RowKit Go.Deep

set_option maxRecDepth 1000000 in
set_option maxHeartbeats 16000000 in
theorem tok_round (s : ByteArray) (R : List Tok × Nat × Nat) (w0 w : World) (Q0 : Exit → Act → World → Prop) (a : Act) (hs : s.size ≤ 4096) (hret : ∀ a2 w2, WE s R w0 a2 w2 → Q0 .ret a2 w2) (hexit : ∀ a2 w2, WX s R w0 a2 w2 → Q0 (.exit 0) a2 w2) (hI : WI s R w0 a w) :
  Code.wp Try.prog tokBody (Exit.then (fun a2 w2 => WI s R w0 a2 w2 ∧ Wmu s a2 w2 < Wmu s a w) Q0) a w := by
 unfold WI at hI
 obtain ⟨ov, hI⟩ := hI
 obtain ⟨iv, hI⟩ := hI
 obtain ⟨u7, hI⟩ := hI
 obtain ⟨u8, hI⟩ := hI
 obtain ⟨u9, hI⟩ := hI
 obtain ⟨u10, hI⟩ := hI
 obtain ⟨u11, hI⟩ := hI
 obtain ⟨u12, hI⟩ := hI
 obtain ⟨u13, hI⟩ := hI
 obtain ⟨u14, hI⟩ := hI
 obtain ⟨u15, hI⟩ := hI
 obtain ⟨u16, hI⟩ := hI
 obtain ⟨u17, hI⟩ := hI
 obtain ⟨u18, hI⟩ := hI
 obtain ⟨u19, hI⟩ := hI
 obtain ⟨u20, hI⟩ := hI
 obtain ⟨u21, hI⟩ := hI
 obtain ⟨u22, hI⟩ := hI
 obtain ⟨u23, hI⟩ := hI
 obtain ⟨u24, hI⟩ := hI
 obtain ⟨u25, hI⟩ := hI
 obtain ⟨u26, hI⟩ := hI
 obtain ⟨u27, hI⟩ := hI
 obtain ⟨u28, hI⟩ := hI
 obtain ⟨u29, hI⟩ := hI
 obtain ⟨u30, hI⟩ := hI
 obtain ⟨u31, hI⟩ := hI
 obtain ⟨u32, hI⟩ := hI
 obtain ⟨u33, hI⟩ := hI
 obtain ⟨u34, hI⟩ := hI
 obtain ⟨u35, hI⟩ := hI
 obtain ⟨u36, hI⟩ := hI
 obtain ⟨u37, hI⟩ := hI
 obtain ⟨u38, hI⟩ := hI
 obtain ⟨u39, hI⟩ := hI
 obtain ⟨u40, hI⟩ := hI
 obtain ⟨u41, hI⟩ := hI
 obtain ⟨u42, hI⟩ := hI
 obtain ⟨u43, hI⟩ := hI
 obtain ⟨u44, hI⟩ := hI
 obtain ⟨u45, hI⟩ := hI
 obtain ⟨u46, hI⟩ := hI
 obtain ⟨u47, hI⟩ := hI
 obtain ⟨u48, hI⟩ := hI
 obtain ⟨u49, hI⟩ := hI
 obtain ⟨u50, hI⟩ := hI
 obtain ⟨u51, hI⟩ := hI
 obtain ⟨u52, hI⟩ := hI
 obtain ⟨u53, hI⟩ := hI
 obtain ⟨u54, hI⟩ := hI
 obtain ⟨u55, hI⟩ := hI
 obtain ⟨u56, hI⟩ := hI
 obtain ⟨u57, hI⟩ := hI
 obtain ⟨u58, hI⟩ := hI
 obtain ⟨u59, hI⟩ := hI
 obtain ⟨u60, hI⟩ := hI
 obtain ⟨u61, hI⟩ := hI
 obtain ⟨u62, hI⟩ := hI
 obtain ⟨u63, hI⟩ := hI
 obtain ⟨u64, hI⟩ := hI
 obtain ⟨u65, hI⟩ := hI
 obtain ⟨u66, hI⟩ := hI
 obtain ⟨u67, hI⟩ := hI
 obtain ⟨u68, hI⟩ := hI
 obtain ⟨u69, hI⟩ := hI
 obtain ⟨u70, hI⟩ := hI
 obtain ⟨u71, hI⟩ := hI
 obtain ⟨u72, hI⟩ := hI
 obtain ⟨u73, hI⟩ := hI
 obtain ⟨u74, hI⟩ := hI
 obtain ⟨u75, hI⟩ := hI
 obtain ⟨u76, hI⟩ := hI
 obtain ⟨u77, hI⟩ := hI
 obtain ⟨u78, hI⟩ := hI
 obtain ⟨u79, hI⟩ := hI
 obtain ⟨u80, hI⟩ := hI
 obtain ⟨u81, hI⟩ := hI
 obtain ⟨u82, hI⟩ := hI
 obtain ⟨u83, hI⟩ := hI
 obtain ⟨u84, hI⟩ := hI
 obtain ⟨u85, hI⟩ := hI
 obtain ⟨u86, hI⟩ := hI
 obtain ⟨u87, hI⟩ := hI
 obtain ⟨u88, hI⟩ := hI
 obtain ⟨u89, hI⟩ := hI
 obtain ⟨u90, hI⟩ := hI
 obtain ⟨u91, hI⟩ := hI
 obtain ⟨u92, hI⟩ := hI
 obtain ⟨u93, hI⟩ := hI
 obtain ⟨u94, hI⟩ := hI
 obtain ⟨u95, hI⟩ := hI
 obtain ⟨u96, hI⟩ := hI
 obtain ⟨u97, hI⟩ := hI
 obtain ⟨u98, hI⟩ := hI
 obtain ⟨u99, hI⟩ := hI
 obtain ⟨u100, hI⟩ := hI
 obtain ⟨u101, hI⟩ := hI
 obtain ⟨u102, hI⟩ := hI
 obtain ⟨u103, hI⟩ := hI
 obtain ⟨u104, hI⟩ := hI
 obtain ⟨u105, hI⟩ := hI
 obtain ⟨u106, hI⟩ := hI
 obtain ⟨u107, hI⟩ := hI
 obtain ⟨u108, hI⟩ := hI
 obtain ⟨u109, hI⟩ := hI
 obtain ⟨u110, hI⟩ := hI
 obtain ⟨u111, hI⟩ := hI
 obtain ⟨u112, hI⟩ := hI
 obtain ⟨u113, hI⟩ := hI
 obtain ⟨u114, hI⟩ := hI
 obtain ⟨u115, hI⟩ := hI
 obtain ⟨u116, hI⟩ := hI
 obtain ⟨u117, hI⟩ := hI
 obtain ⟨u118, hI⟩ := hI
 obtain ⟨u119, hI⟩ := hI
 obtain ⟨u120, hI⟩ := hI
 obtain ⟨u121, hI⟩ := hI
 obtain ⟨u122, hI⟩ := hI
 obtain ⟨u123, hI⟩ := hI
 obtain ⟨u124, hI⟩ := hI
 obtain ⟨u125, hI⟩ := hI
 obtain ⟨u126, hI⟩ := hI
 obtain ⟨u127, hI⟩ := hI
 obtain ⟨u128, hI⟩ := hI
 obtain ⟨u129, hI⟩ := hI
 obtain ⟨u130, hI⟩ := hI
 obtain ⟨u131, hI⟩ := hI
 obtain ⟨u132, hI⟩ := hI
 obtain ⟨u133, hI⟩ := hI
 obtain ⟨u134, hI⟩ := hI
 obtain ⟨u135, hI⟩ := hI
 obtain ⟨u136, hI⟩ := hI
 obtain ⟨u137, hI⟩ := hI
 obtain ⟨u138, hI⟩ := hI
 obtain ⟨u139, hI⟩ := hI
 obtain ⟨u140, hI⟩ := hI
 obtain ⟨u141, hI⟩ := hI
 obtain ⟨u142, hI⟩ := hI
 obtain ⟨u143, hI⟩ := hI
 obtain ⟨u144, hI⟩ := hI
 obtain ⟨u145, hI⟩ := hI
 obtain ⟨u146, hI⟩ := hI
 obtain ⟨u147, hI⟩ := hI
 obtain ⟨u148, hI⟩ := hI
 obtain ⟨u149, hI⟩ := hI
 obtain ⟨u150, hI⟩ := hI
 obtain ⟨u151, hI⟩ := hI
 obtain ⟨u152, hI⟩ := hI
 obtain ⟨u153, hI⟩ := hI
 obtain ⟨u154, hI⟩ := hI
 obtain ⟨u155, hI⟩ := hI
 obtain ⟨u156, hI⟩ := hI
 obtain ⟨u157, hI⟩ := hI
 obtain ⟨u158, hI⟩ := hI
 obtain ⟨u159, hI⟩ := hI
 obtain ⟨u160, hI⟩ := hI
 obtain ⟨u161, hI⟩ := hI
 obtain ⟨u162, hI⟩ := hI
 obtain ⟨u163, hI⟩ := hI
 obtain ⟨u164, hI⟩ := hI
 obtain ⟨u165, hI⟩ := hI
 obtain ⟨u166, hI⟩ := hI
 obtain ⟨u167, hI⟩ := hI
 obtain ⟨u168, hI⟩ := hI
 obtain ⟨u169, hI⟩ := hI
 obtain ⟨u170, hI⟩ := hI
 obtain ⟨u171, hI⟩ := hI
 obtain ⟨u172, hI⟩ := hI
 obtain ⟨u173, hI⟩ := hI
 obtain ⟨u174, hI⟩ := hI
 obtain ⟨u175, hI⟩ := hI
 obtain ⟨u176, hI⟩ := hI
 obtain ⟨u177, hI⟩ := hI
 obtain ⟨u178, hI⟩ := hI
 obtain ⟨u179, hI⟩ := hI
 obtain ⟨u180, hI⟩ := hI
 obtain ⟨u181, hI⟩ := hI
 obtain ⟨u182, hI⟩ := hI
 obtain ⟨u183, hI⟩ := hI
 obtain ⟨u184, hI⟩ := hI
 obtain ⟨u185, hI⟩ := hI
 obtain ⟨u186, hI⟩ := hI
 obtain ⟨u187, hI⟩ := hI
 obtain ⟨u188, hI⟩ := hI
 obtain ⟨u189, hI⟩ := hI
 obtain ⟨u190, hI⟩ := hI
 obtain ⟨u191, hI⟩ := hI
 obtain ⟨u192, hI⟩ := hI
 obtain ⟨u193, hI⟩ := hI
 obtain ⟨u194, hI⟩ := hI
 obtain ⟨u195, hI⟩ := hI
 obtain ⟨u196, hI⟩ := hI
 obtain ⟨u197, hI⟩ := hI
 obtain ⟨u198, hI⟩ := hI
 obtain ⟨u199, hI⟩ := hI
 obtain ⟨u200, hI⟩ := hI
 obtain ⟨u201, hI⟩ := hI
 obtain ⟨u202, hI⟩ := hI
 obtain ⟨u203, hI⟩ := hI
 obtain ⟨u204, hI⟩ := hI
 obtain ⟨u205, hI⟩ := hI
 obtain ⟨u206, hI⟩ := hI
 obtain ⟨u207, hI⟩ := hI
 obtain ⟨u208, hI⟩ := hI
 obtain ⟨u209, hI⟩ := hI
 obtain ⟨u210, hI⟩ := hI
 obtain ⟨u211, hI⟩ := hI
 obtain ⟨u212, hI⟩ := hI
 obtain ⟨u213, hI⟩ := hI
 obtain ⟨u214, hI⟩ := hI
 obtain ⟨u215, hI⟩ := hI
 obtain ⟨u216, hI⟩ := hI
 obtain ⟨u217, hI⟩ := hI
 obtain ⟨u218, hI⟩ := hI
 obtain ⟨u219, hI⟩ := hI
 obtain ⟨u220, hI⟩ := hI
 obtain ⟨u221, hI⟩ := hI
 obtain ⟨u222, hI⟩ := hI
 obtain ⟨u223, hI⟩ := hI
 obtain ⟨u224, hI⟩ := hI
 obtain ⟨u225, hI⟩ := hI
 obtain ⟨u226, hI⟩ := hI
 obtain ⟨u227, hI⟩ := hI
 obtain ⟨u228, hI⟩ := hI
 obtain ⟨⟨f, i, out, hi, rfl, hL⟩, rfl⟩ := hI
 replace hL := Lib.hid hL
 by_cases hlt : i < s.size
 case neg => exact tok_end s R w0 w Q0 f i out ov u7 u8 u9 u10 u11 u12 u13 u14 u15 u16 u17 u18 u19 u20 u21 u22 u23 u24 u25 u26 u27 u28 u29 u30 u31 u32 u33 u34 u35 u36 u37 u38 u39 u40 u41 u42 u43 u44 u45 u46 u47 u48 u49 u50 u51 u52 u53 u54 u55 u56 u57 u58 u59 u60 u61 u62 u63 u64 u65 u66 u67 u68 u69 u70 u71 u72 u73 u74 u75 u76 u77 u78 u79 u80 u81 u82 u83 u84 u85 u86 u87 u88 u89 u90 u91 u92 u93 u94 u95 u96 u97 u98 u99 u100 u101 u102 u103 u104 u105 u106 u107 u108 u109 u110 u111 u112 u113 u114 u115 u116 u117 u118 u119 u120 u121 u122 u123 u124 u125 u126 u127 u128 u129 u130 u131 u132 u133 u134 u135 u136 u137 u138 u139 u140 u141 u142 u143 u144 u145 u146 u147 u148 u149 u150 u151 u152 u153 u154 u155 u156 u157 u158 u159 u160 u161 u162 u163 u164 u165 u166 u167 u168 u169 u170 u171 u172 u173 u174 u175 u176 u177 u178 u179 u180 u181 u182 u183 u184 u185 u186 u187 u188 u189 u190 u191 u192 u193 u194 u195 u196 u197 u198 u199 u200 u201 u202 u203 u204 u205 u206 u207 u208 u209 u210 u211 u212 u213 u214 u215 u216 u217 u218 u219 u220 u221 u222 u223 u224 u225 u226 u227 u228 hs hL (by omega) hexit
 cases hws : wsC s[i] with
 | true => exact tok_ws s R w0 w Q0 f i out ov u7 u8 u9 u10 u11 u12 u13 u14 u15 u16 u17 u18 u19 u20 u21 u22 u23 u24 u25 u26 u27 u28 u29 u30 u31 u32 u33 u34 u35 u36 u37 u38 u39 u40 u41 u42 u43 u44 u45 u46 u47 u48 u49 u50 u51 u52 u53 u54 u55 u56 u57 u58 u59 u60 u61 u62 u63 u64 u65 u66 u67 u68 u69 u70 u71 u72 u73 u74 u75 u76 u77 u78 u79 u80 u81 u82 u83 u84 u85 u86 u87 u88 u89 u90 u91 u92 u93 u94 u95 u96 u97 u98 u99 u100 u101 u102 u103 u104 u105 u106 u107 u108 u109 u110 u111 u112 u113 u114 u115 u116 u117 u118 u119 u120 u121 u122 u123 u124 u125 u126 u127 u128 u129 u130 u131 u132 u133 u134 u135 u136 u137 u138 u139 u140 u141 u142 u143 u144 u145 u146 u147 u148 u149 u150 u151 u152 u153 u154 u155 u156 u157 u158 u159 u160 u161 u162 u163 u164 u165 u166 u167 u168 u169 u170 u171 u172 u173 u174 u175 u176 u177 u178 u179 u180 u181 u182 u183 u184 u185 u186 u187 u188 u189 u190 u191 u192 u193 u194 u195 u196 u197 u198 u199 u200 u201 u202 u203 u204 u205 u206 u207 u208 u209 u210 u211 u212 u213 u214 u215 u216 u217 u218 u219 u220 u221 u222 u223 u224 u225 u226 u227 u228 hs hL hlt hws
 | false =>
  by_cases h35 : s[i].toNat = 35
  ·exact tok_note s R w0 w Q0 f i out ov u7 u8 u9 u10 u11 u12 u13 u14 u15 u16 u17 u18 u19 u20 u21 u22 u23 u24 u25 u26 u27 u28 u29 u30 u31 u32 u33 u34 u35 u36 u37 u38 u39 u40 u41 u42 u43 u44 u45 u46 u47 u48 u49 u50 u51 u52 u53 u54 u55 u56 u57 u58 u59 u60 u61 u62 u63 u64 u65 u66 u67 u68 u69 u70 u71 u72 u73 u74 u75 u76 u77 u78 u79 u80 u81 u82 u83 u84 u85 u86 u87 u88 u89 u90 u91 u92 u93 u94 u95 u96 u97 u98 u99 u100 u101 u102 u103 u104 u105 u106 u107 u108 u109 u110 u111 u112 u113 u114 u115 u116 u117 u118 u119 u120 u121 u122 u123 u124 u125 u126 u127 u128 u129 u130 u131 u132 u133 u134 u135 u136 u137 u138 u139 u140 u141 u142 u143 u144 u145 u146 u147 u148 u149 u150 u151 u152 u153 u154 u155 u156 u157 u158 u159 u160 u161 u162 u163 u164 u165 u166 u167 u168 u169 u170 u171 u172 u173 u174 u175 u176 u177 u178 u179 u180 u181 u182 u183 u184 u185 u186 u187 u188 u189 u190 u191 u192 u193 u194 u195 u196 u197 u198 u199 u200 u201 u202 u203 u204 u205 u206 u207 u208 u209 u210 u211 u212 u213 u214 u215 u216 u217 u218 u219 u220 u221 u222 u223 u224 u225 u226 u227 u228 hs hL hlt hws h35
  cases hl : letC s[i] with
  | true => exact tok_name s R w0 w Q0 f i out ov u7 u8 u9 u10 u11 u12 u13 u14 u15 u16 u17 u18 u19 u20 u21 u22 u23 u24 u25 u26 u27 u28 u29 u30 u31 u32 u33 u34 u35 u36 u37 u38 u39 u40 u41 u42 u43 u44 u45 u46 u47 u48 u49 u50 u51 u52 u53 u54 u55 u56 u57 u58 u59 u60 u61 u62 u63 u64 u65 u66 u67 u68 u69 u70 u71 u72 u73 u74 u75 u76 u77 u78 u79 u80 u81 u82 u83 u84 u85 u86 u87 u88 u89 u90 u91 u92 u93 u94 u95 u96 u97 u98 u99 u100 u101 u102 u103 u104 u105 u106 u107 u108 u109 u110 u111 u112 u113 u114 u115 u116 u117 u118 u119 u120 u121 u122 u123 u124 u125 u126 u127 u128 u129 u130 u131 u132 u133 u134 u135 u136 u137 u138 u139 u140 u141 u142 u143 u144 u145 u146 u147 u148 u149 u150 u151 u152 u153 u154 u155 u156 u157 u158 u159 u160 u161 u162 u163 u164 u165 u166 u167 u168 u169 u170 u171 u172 u173 u174 u175 u176 u177 u178 u179 u180 u181 u182 u183 u184 u185 u186 u187 u188 u189 u190 u191 u192 u193 u194 u195 u196 u197 u198 u199 u200 u201 u202 u203 u204 u205 u206 u207 u208 u209 u210 u211 u212 u213 u214 u215 u216 u217 u218 u219 u220 u221 u222 u223 u224 u225 u226 u227 u228 hs hL hlt hws h35 hl hret
  | false =>
   cases hd : digC s[i] with
   | true => exact tok_num s R w0 w Q0 f i out ov u7 u8 u9 u10 u11 u12 u13 u14 u15 u16 u17 u18 u19 u20 u21 u22 u23 u24 u25 u26 u27 u28 u29 u30 u31 u32 u33 u34 u35 u36 u37 u38 u39 u40 u41 u42 u43 u44 u45 u46 u47 u48 u49 u50 u51 u52 u53 u54 u55 u56 u57 u58 u59 u60 u61 u62 u63 u64 u65 u66 u67 u68 u69 u70 u71 u72 u73 u74 u75 u76 u77 u78 u79 u80 u81 u82 u83 u84 u85 u86 u87 u88 u89 u90 u91 u92 u93 u94 u95 u96 u97 u98 u99 u100 u101 u102 u103 u104 u105 u106 u107 u108 u109 u110 u111 u112 u113 u114 u115 u116 u117 u118 u119 u120 u121 u122 u123 u124 u125 u126 u127 u128 u129 u130 u131 u132 u133 u134 u135 u136 u137 u138 u139 u140 u141 u142 u143 u144 u145 u146 u147 u148 u149 u150 u151 u152 u153 u154 u155 u156 u157 u158 u159 u160 u161 u162 u163 u164 u165 u166 u167 u168 u169 u170 u171 u172 u173 u174 u175 u176 u177 u178 u179 u180 u181 u182 u183 u184 u185 u186 u187 u188 u189 u190 u191 u192 u193 u194 u195 u196 u197 u198 u199 u200 u201 u202 u203 u204 u205 u206 u207 u208 u209 u210 u211 u212 u213 u214 u215 u216 u217 u218 u219 u220 u221 u222 u223 u224 u225 u226 u227 u228 hs hL hlt hws h35 hl hd hret
   | false =>
    cases h2 : two_ (s.data.toList.drop i) with
    | true =>
     refine tok_two s R w0 w Q0 f i out ov u7 u8 u9 u10 u11 u12 u13 u14 u15 u16 u17 u18 u19 u20 u21 u22 u23 u24 u25 u26 u27 u28 u29 u30 u31 u32 u33 u34 u35 u36 u37 u38 u39 u40 u41 u42 u43 u44 u45 u46 u47 u48 u49 u50 u51 u52 u53 u54 u55 u56 u57 u58 u59 u60 u61 u62 u63 u64 u65 u66 u67 u68 u69 u70 u71 u72 u73 u74 u75 u76 u77 u78 u79 u80 u81 u82 u83 u84 u85 u86 u87 u88 u89 u90 u91 u92 u93 u94 u95 u96 u97 u98 u99 u100 u101 u102 u103 u104 u105 u106 u107 u108 u109 u110 u111 u112 u113 u114 u115 u116 u117 u118 u119 u120 u121 u122 u123 u124 u125 u126 u127 u128 u129 u130 u131 u132 u133 u134 u135 u136 u137 u138 u139 u140 u141 u142 u143 u144 u145 u146 u147 u148 u149 u150 u151 u152 u153 u154 u155 u156 u157 u158 u159 u160 u161 u162 u163 u164 u165 u166 u167 u168 u169 u170 u171 u172 u173 u174 u175 u176 u177 u178 u179 u180 u181 u182 u183 u184 u185 u186 u187 u188 u189 u190 u191 u192 u193 u194 u195 u196 u197 u198 u199 u200 u201 u202 u203 u204 u205 u206 u207 u208 u209 u210 u211 u212 u213 u214 u215 u216 u217 u218 u219 u220 u221 u222 u223 u224 u225 u226 u227 u228 hs hL hlt hws h35 hl hd ?_ h2
     rcases Nat.lt_or_ge s.size (i + 2) with h | h
     ·exfalso
      have h3 : (s.data.toList.drop i).take 2 = [s[i]] := by
       rw [drop_cons s i hlt, List.drop_of_length_le (by simp; omega)]
       rfl
      unfold two_ at h2
      rw [h3] at h2
      simp at h2
     ·exact h
    | false =>
     cases h1 : signs1.contains s[i] with
     | true => exact tok_one s R w0 w Q0 f i out ov u7 u8 u9 u10 u11 u12 u13 u14 u15 u16 u17 u18 u19 u20 u21 u22 u23 u24 u25 u26 u27 u28 u29 u30 u31 u32 u33 u34 u35 u36 u37 u38 u39 u40 u41 u42 u43 u44 u45 u46 u47 u48 u49 u50 u51 u52 u53 u54 u55 u56 u57 u58 u59 u60 u61 u62 u63 u64 u65 u66 u67 u68 u69 u70 u71 u72 u73 u74 u75 u76 u77 u78 u79 u80 u81 u82 u83 u84 u85 u86 u87 u88 u89 u90 u91 u92 u93 u94 u95 u96 u97 u98 u99 u100 u101 u102 u103 u104 u105 u106 u107 u108 u109 u110 u111 u112 u113 u114 u115 u116 u117 u118 u119 u120 u121 u122 u123 u124 u125 u126 u127 u128 u129 u130 u131 u132 u133 u134 u135 u136 u137 u138 u139 u140 u141 u142 u143 u144 u145 u146 u147 u148 u149 u150 u151 u152 u153 u154 u155 u156 u157 u158 u159 u160 u161 u162 u163 u164 u165 u166 u167 u168 u169 u170 u171 u172 u173 u174 u175 u176 u177 u178 u179 u180 u181 u182 u183 u184 u185 u186 u187 u188 u189 u190 u191 u192 u193 u194 u195 u196 u197 u198 u199 u200 u201 u202 u203 u204 u205 u206 u207 u208 u209 u210 u211 u212 u213 u214 u215 u216 u217 u218 u219 u220 u221 u222 u223 u224 u225 u226 u227 u228 hs hL hlt hws h35 hl hd h2 h1
     | false => exact tok_bad s R w0 w Q0 f i out ov u7 u8 u9 u10 u11 u12 u13 u14 u15 u16 u17 u18 u19 u20 u21 u22 u23 u24 u25 u26 u27 u28 u29 u30 u31 u32 u33 u34 u35 u36 u37 u38 u39 u40 u41 u42 u43 u44 u45 u46 u47 u48 u49 u50 u51 u52 u53 u54 u55 u56 u57 u58 u59 u60 u61 u62 u63 u64 u65 u66 u67 u68 u69 u70 u71 u72 u73 u74 u75 u76 u77 u78 u79 u80 u81 u82 u83 u84 u85 u86 u87 u88 u89 u90 u91 u92 u93 u94 u95 u96 u97 u98 u99 u100 u101 u102 u103 u104 u105 u106 u107 u108 u109 u110 u111 u112 u113 u114 u115 u116 u117 u118 u119 u120 u121 u122 u123 u124 u125 u126 u127 u128 u129 u130 u131 u132 u133 u134 u135 u136 u137 u138 u139 u140 u141 u142 u143 u144 u145 u146 u147 u148 u149 u150 u151 u152 u153 u154 u155 u156 u157 u158 u159 u160 u161 u162 u163 u164 u165 u166 u167 u168 u169 u170 u171 u172 u173 u174 u175 u176 u177 u178 u179 u180 u181 u182 u183 u184 u185 u186 u187 u188 u189 u190 u191 u192 u193 u194 u195 u196 u197 u198 u199 u200 u201 u202 u203 u204 u205 u206 u207 u208 u209 u210 u211 u212 u213 u214 u215 u216 u217 u218 u219 u220 u221 u222 u223 u224 u225 u226 u227 u228 hs hL hlt hws h35 hl hd h2 h1 hret
set_option maxRecDepth 1000000 in
theorem tok_loop (s : ByteArray) (R : List Tok × Nat × Nat) (w0 w : World) (Q0 : Exit → Act → World → Prop) (ov iv u7 u8 u9 u10 u11 u12 u13 u14 u15 u16 u17 u18 u19 u20 u21 u22 u23 u24 u25 u26 u27 u28 u29 u30 u31 u32 u33 u34 u35 u36 u37 u38 u39 u40 u41 u42 u43 u44 u45 u46 u47 u48 u49 u50 u51 u52 u53 u54 u55 u56 u57 u58 u59 u60 u61 u62 u63 u64 u65 u66 u67 u68 u69 u70 u71 u72 u73 u74 u75 u76 u77 u78 u79 u80 u81 u82 u83 u84 u85 u86 u87 u88 u89 u90 u91 u92 u93 u94 u95 u96 u97 u98 u99 u100 u101 u102 u103 u104 u105 u106 u107 u108 u109 u110 u111 u112 u113 u114 u115 u116 u117 u118 u119 u120 u121 u122 u123 u124 u125 u126 u127 u128 u129 u130 u131 u132 u133 u134 u135 u136 u137 u138 u139 u140 u141 u142 u143 u144 u145 u146 u147 u148 u149 u150 u151 u152 u153 u154 u155 u156 u157 u158 u159 u160 u161 u162 u163 u164 u165 u166 u167 u168 u169 u170 u171 u172 u173 u174 u175 u176 u177 u178 u179 u180 u181 u182 u183 u184 u185 u186 u187 u188 u189 u190 u191 u192 u193 u194 u195 u196 u197 u198 u199 u200 u201 u202 u203 u204 u205 u206 u207 u208 u209 u210 u211 u212 u213 u214 u215 u216 u217 u218 u219 u220 u221 u222 u223 u224 u225 u226 u227 u228 : Value) (hs : s.size ≤ 4096) (hret : ∀ a2 w2, WE s R w0 a2 w2 → Q0 .ret a2 w2) (hexit : ∀ a2 w2, WX s R w0 a2 w2 → Q0 (.exit 0) a2 w2) (hrel : ∃ (f i : Nat) (out : List Tok), i ≤ s.size ∧ iv = .int .i64 i ∧ TokL s R f i out ov w0 w) :
  Code.wp Try.prog (Code.loop tokBody) Q0 ⟨#[.string s, undef, .slice none 0 0, .int .i64 0, .int .i64 0, ov, iv, u7, u8, u9, u10, u11, u12, u13, u14, u15, u16, u17, u18, u19, u20, u21, u22, u23, u24, u25, u26, u27, u28, u29, u30, u31, u32, u33, u34, u35, u36, u37, u38, u39, u40, u41, u42, u43, u44, u45, u46, u47, u48, u49, u50, u51, u52, u53, u54, u55, u56, u57, u58, u59, u60, u61, u62, u63, u64, u65, u66, u67, u68, u69, u70, u71, u72, u73, u74, u75, u76, u77, u78, u79, u80, u81, u82, u83, u84, u85, u86, u87, u88, u89, u90, u91, u92, u93, u94, u95, u96, u97, u98, u99, u100, u101, u102, u103, u104, u105, u106, u107, u108, u109, u110, u111, u112, u113, u114, u115, u116, u117, u118, u119, u120, u121, u122, u123, u124, u125, u126, u127, u128, u129, u130, u131, u132, u133, u134, u135, u136, u137, u138, u139, u140, u141, u142, u143, u144, u145, u146, u147, u148, u149, u150, u151, u152, u153, u154, u155, u156, u157, u158, u159, u160, u161, u162, u163, u164, u165, u166, u167, u168, u169, u170, u171, u172, u173, u174, u175, u176, u177, u178, u179, u180, u181, u182, u183, u184, u185, u186, u187, u188, u189, u190, u191, u192, u193, u194, u195, u196, u197, u198, u199, u200, u201, u202, u203, u204, u205, u206, u207, u208, u209, u210, u211, u212, u213, u214, u215, u216, u217, u218, u219, u220, u221, u222, u223, u224, u225, u226, u227, u228], []⟩ w := by
 refine wp_loop (WI s R w0) (Wmu s) ?_ (fun a w2 hI => tok_round s R w0 w2 Q0 a hs hret hexit hI)
 unfold WI
 exact ⟨ov, iv, u7, u8, u9, u10, u11, u12, u13, u14, u15, u16, u17, u18, u19, u20, u21, u22, u23, u24, u25, u26, u27, u28, u29, u30, u31, u32, u33, u34, u35, u36, u37, u38, u39, u40, u41, u42, u43, u44, u45, u46, u47, u48, u49, u50, u51, u52, u53, u54, u55, u56, u57, u58, u59, u60, u61, u62, u63, u64, u65, u66, u67, u68, u69, u70, u71, u72, u73, u74, u75, u76, u77, u78, u79, u80, u81, u82, u83, u84, u85, u86, u87, u88, u89, u90, u91, u92, u93, u94, u95, u96, u97, u98, u99, u100, u101, u102, u103, u104, u105, u106, u107, u108, u109, u110, u111, u112, u113, u114, u115, u116, u117, u118, u119, u120, u121, u122, u123, u124, u125, u126, u127, u128, u129, u130, u131, u132, u133, u134, u135, u136, u137, u138, u139, u140, u141, u142, u143, u144, u145, u146, u147, u148, u149, u150, u151, u152, u153, u154, u155, u156, u157, u158, u159, u160, u161, u162, u163, u164, u165, u166, u167, u168, u169, u170, u171, u172, u173, u174, u175, u176, u177, u178, u179, u180, u181, u182, u183, u184, u185, u186, u187, u188, u189, u190, u191, u192, u193, u194, u195, u196, u197, u198, u199, u200, u201, u202, u203, u204, u205, u206, u207, u208, u209, u210, u211, u212, u213, u214, u215, u216, u217, u218, u219, u220, u221, u222, u223, u224, u225, u226, u227, u228, hrel, rfl⟩
set_option maxRecDepth 1000000 in
set_option maxHeartbeats 8000000 in
theorem tokens_any (w : World) (s : ByteArray) (hs : s.size ≤ maxLen) : Calls Try.prog 12 #[.string s] w (TokPost (lexF s.data.toList) w) := by
 have hs' := hs
 unfold maxLen at hs'
 obtain ⟨R, hR⟩ : ∃ x, x = lexF s.data.toList := ⟨_, rfl⟩
 rw [← hR]
 have hsz : s.data.toList.length = s.size := rfl
 by_cases hbig : 4096 < s.size
 ·have hF : Hid (R = ([], 0, 53)) := Lib.hid (by rw [hR]; unfold lexF; rw [if_pos (by rw [hsz]; exact hbig)])
  have hbig' : (4096 : Int) < (s.size : Int) := by omega
  clear hR hsz
  go_enter Try.func12, Try.ntmps12
  go_wp2_with fail
  refine bodyPost_ret (v := .tuple #[.slice none 0 0, .int .i64 0, .int .i64 53]) (by simp [results, Try.results12, go_sem]) rfl ?_
  rw [hF.out]
  exact ⟨none, 0, rfl, Row.nil_ _ _ _, Nat.le_refl _, Below.refl _ _⟩
 have hbig' : ¬ (4096 : Int) < (s.size : Int) := by omega
 have hL1 : Hid (TokL s R (s.size + 1) 0 [] (.slice none 0 0) w w) := Lib.hid ⟨by rw [hR]; unfold lexF; rw [if_neg (by rw [hsz]; exact hbig), hsz, List.drop_zero], by omega, by simp, ⟨rfl, .inl ⟨rfl, rfl⟩⟩, Below.refl _ _⟩
 clear hR hsz
 go_enter Try.func12, Try.ntmps12
 go_wp2_with fail
 refine tok_loop s R w _ _ _ _ _ _ _ _ _ _ _ _ _ _ _ _ _ _ _ _ _ _ _ _ _ _ _ _ _ _ _ _ _ _ _ _ _ _ _ _ _ _ _ _ _ _ _ _ _ _ _ _ _ _ _ _ _ _ _ _ _ _ _ _ _ _ _ _ _ _ _ _ _ _ _ _ _ _ _ _ _ _ _ _ _ _ _ _ _ _ _ _ _ _ _ _ _ _ _ _ _ _ _ _ _ _ _ _ _ _ _ _ _ _ _ _ _ _ _ _ _ _ _ _ _ _ _ _ _ _ _ _ _ _ _ _ _ _ _ _ _ _ _ _ _ _ _ _ _ _ _ _ _ _ _ _ _ _ _ _ _ _ _ _ _ _ _ _ _ _ _ _ _ _ _ _ _ _ _ _ _ _ _ _ _ _ _ _ _ _ _ _ _ _ _ _ _ _ _ _ _ _ _ _ _ _ _ _ _ _ _ _ _ _ _ _ _ _ _ _ _ _ _ _ _ _ (by omega) ?_ ?_ ⟨_, 0, [], Nat.zero_le _, rfl, hL1.out⟩
 ·intro a2 w2 h
  unfold WE at h
  obtain ⟨at_, h⟩ := h
  obtain ⟨e, h⟩ := h
  obtain ⟨ov, h⟩ := h
  obtain ⟨iv, h⟩ := h
  obtain ⟨u7, h⟩ := h
  obtain ⟨u8, h⟩ := h
  obtain ⟨u9, h⟩ := h
  obtain ⟨u10, h⟩ := h
  obtain ⟨u11, h⟩ := h
  obtain ⟨u12, h⟩ := h
  obtain ⟨u13, h⟩ := h
  obtain ⟨u14, h⟩ := h
  obtain ⟨u15, h⟩ := h
  obtain ⟨u16, h⟩ := h
  obtain ⟨u17, h⟩ := h
  obtain ⟨u18, h⟩ := h
  obtain ⟨u19, h⟩ := h
  obtain ⟨u20, h⟩ := h
  obtain ⟨u21, h⟩ := h
  obtain ⟨u22, h⟩ := h
  obtain ⟨u23, h⟩ := h
  obtain ⟨u24, h⟩ := h
  obtain ⟨u25, h⟩ := h
  obtain ⟨u26, h⟩ := h
  obtain ⟨u27, h⟩ := h
  obtain ⟨u28, h⟩ := h
  obtain ⟨u29, h⟩ := h
  obtain ⟨u30, h⟩ := h
  obtain ⟨u31, h⟩ := h
  obtain ⟨u32, h⟩ := h
  obtain ⟨u33, h⟩ := h
  obtain ⟨u34, h⟩ := h
  obtain ⟨u35, h⟩ := h
  obtain ⟨u36, h⟩ := h
  obtain ⟨u37, h⟩ := h
  obtain ⟨u38, h⟩ := h
  obtain ⟨u39, h⟩ := h
  obtain ⟨u40, h⟩ := h
  obtain ⟨u41, h⟩ := h
  obtain ⟨u42, h⟩ := h
  obtain ⟨u43, h⟩ := h
  obtain ⟨u44, h⟩ := h
  obtain ⟨u45, h⟩ := h
  obtain ⟨u46, h⟩ := h
  obtain ⟨u47, h⟩ := h
  obtain ⟨u48, h⟩ := h
  obtain ⟨u49, h⟩ := h
  obtain ⟨u50, h⟩ := h
  obtain ⟨u51, h⟩ := h
  obtain ⟨u52, h⟩ := h
  obtain ⟨u53, h⟩ := h
  obtain ⟨u54, h⟩ := h
  obtain ⟨u55, h⟩ := h
  obtain ⟨u56, h⟩ := h
  obtain ⟨u57, h⟩ := h
  obtain ⟨u58, h⟩ := h
  obtain ⟨u59, h⟩ := h
  obtain ⟨u60, h⟩ := h
  obtain ⟨u61, h⟩ := h
  obtain ⟨u62, h⟩ := h
  obtain ⟨u63, h⟩ := h
  obtain ⟨u64, h⟩ := h
  obtain ⟨u65, h⟩ := h
  obtain ⟨u66, h⟩ := h
  obtain ⟨u67, h⟩ := h
  obtain ⟨u68, h⟩ := h
  obtain ⟨u69, h⟩ := h
  obtain ⟨u70, h⟩ := h
  obtain ⟨u71, h⟩ := h
  obtain ⟨u72, h⟩ := h
  obtain ⟨u73, h⟩ := h
  obtain ⟨u74, h⟩ := h
  obtain ⟨u75, h⟩ := h
  obtain ⟨u76, h⟩ := h
  obtain ⟨u77, h⟩ := h
  obtain ⟨u78, h⟩ := h
  obtain ⟨u79, h⟩ := h
  obtain ⟨u80, h⟩ := h
  obtain ⟨u81, h⟩ := h
  obtain ⟨u82, h⟩ := h
  obtain ⟨u83, h⟩ := h
  obtain ⟨u84, h⟩ := h
  obtain ⟨u85, h⟩ := h
  obtain ⟨u86, h⟩ := h
  obtain ⟨u87, h⟩ := h
  obtain ⟨u88, h⟩ := h
  obtain ⟨u89, h⟩ := h
  obtain ⟨u90, h⟩ := h
  obtain ⟨u91, h⟩ := h
  obtain ⟨u92, h⟩ := h
  obtain ⟨u93, h⟩ := h
  obtain ⟨u94, h⟩ := h
  obtain ⟨u95, h⟩ := h
  obtain ⟨u96, h⟩ := h
  obtain ⟨u97, h⟩ := h
  obtain ⟨u98, h⟩ := h
  obtain ⟨u99, h⟩ := h
  obtain ⟨u100, h⟩ := h
  obtain ⟨u101, h⟩ := h
  obtain ⟨u102, h⟩ := h
  obtain ⟨u103, h⟩ := h
  obtain ⟨u104, h⟩ := h
  obtain ⟨u105, h⟩ := h
  obtain ⟨u106, h⟩ := h
  obtain ⟨u107, h⟩ := h
  obtain ⟨u108, h⟩ := h
  obtain ⟨u109, h⟩ := h
  obtain ⟨u110, h⟩ := h
  obtain ⟨u111, h⟩ := h
  obtain ⟨u112, h⟩ := h
  obtain ⟨u113, h⟩ := h
  obtain ⟨u114, h⟩ := h
  obtain ⟨u115, h⟩ := h
  obtain ⟨u116, h⟩ := h
  obtain ⟨u117, h⟩ := h
  obtain ⟨u118, h⟩ := h
  obtain ⟨u119, h⟩ := h
  obtain ⟨u120, h⟩ := h
  obtain ⟨u121, h⟩ := h
  obtain ⟨u122, h⟩ := h
  obtain ⟨u123, h⟩ := h
  obtain ⟨u124, h⟩ := h
  obtain ⟨u125, h⟩ := h
  obtain ⟨u126, h⟩ := h
  obtain ⟨u127, h⟩ := h
  obtain ⟨u128, h⟩ := h
  obtain ⟨u129, h⟩ := h
  obtain ⟨u130, h⟩ := h
  obtain ⟨u131, h⟩ := h
  obtain ⟨u132, h⟩ := h
  obtain ⟨u133, h⟩ := h
  obtain ⟨u134, h⟩ := h
  obtain ⟨u135, h⟩ := h
  obtain ⟨u136, h⟩ := h
  obtain ⟨u137, h⟩ := h
  obtain ⟨u138, h⟩ := h
  obtain ⟨u139, h⟩ := h
  obtain ⟨u140, h⟩ := h
  obtain ⟨u141, h⟩ := h
  obtain ⟨u142, h⟩ := h
  obtain ⟨u143, h⟩ := h
  obtain ⟨u144, h⟩ := h
  obtain ⟨u145, h⟩ := h
  obtain ⟨u146, h⟩ := h
  obtain ⟨u147, h⟩ := h
  obtain ⟨u148, h⟩ := h
  obtain ⟨u149, h⟩ := h
  obtain ⟨u150, h⟩ := h
  obtain ⟨u151, h⟩ := h
  obtain ⟨u152, h⟩ := h
  obtain ⟨u153, h⟩ := h
  obtain ⟨u154, h⟩ := h
  obtain ⟨u155, h⟩ := h
  obtain ⟨u156, h⟩ := h
  obtain ⟨u157, h⟩ := h
  obtain ⟨u158, h⟩ := h
  obtain ⟨u159, h⟩ := h
  obtain ⟨u160, h⟩ := h
  obtain ⟨u161, h⟩ := h
  obtain ⟨u162, h⟩ := h
  obtain ⟨u163, h⟩ := h
  obtain ⟨u164, h⟩ := h
  obtain ⟨u165, h⟩ := h
  obtain ⟨u166, h⟩ := h
  obtain ⟨u167, h⟩ := h
  obtain ⟨u168, h⟩ := h
  obtain ⟨u169, h⟩ := h
  obtain ⟨u170, h⟩ := h
  obtain ⟨u171, h⟩ := h
  obtain ⟨u172, h⟩ := h
  obtain ⟨u173, h⟩ := h
  obtain ⟨u174, h⟩ := h
  obtain ⟨u175, h⟩ := h
  obtain ⟨u176, h⟩ := h
  obtain ⟨u177, h⟩ := h
  obtain ⟨u178, h⟩ := h
  obtain ⟨u179, h⟩ := h
  obtain ⟨u180, h⟩ := h
  obtain ⟨u181, h⟩ := h
  obtain ⟨u182, h⟩ := h
  obtain ⟨u183, h⟩ := h
  obtain ⟨u184, h⟩ := h
  obtain ⟨u185, h⟩ := h
  obtain ⟨u186, h⟩ := h
  obtain ⟨u187, h⟩ := h
  obtain ⟨u188, h⟩ := h
  obtain ⟨u189, h⟩ := h
  obtain ⟨u190, h⟩ := h
  obtain ⟨u191, h⟩ := h
  obtain ⟨u192, h⟩ := h
  obtain ⟨u193, h⟩ := h
  obtain ⟨u194, h⟩ := h
  obtain ⟨u195, h⟩ := h
  obtain ⟨u196, h⟩ := h
  obtain ⟨u197, h⟩ := h
  obtain ⟨u198, h⟩ := h
  obtain ⟨u199, h⟩ := h
  obtain ⟨u200, h⟩ := h
  obtain ⟨u201, h⟩ := h
  obtain ⟨u202, h⟩ := h
  obtain ⟨u203, h⟩ := h
  obtain ⟨u204, h⟩ := h
  obtain ⟨u205, h⟩ := h
  obtain ⟨u206, h⟩ := h
  obtain ⟨u207, h⟩ := h
  obtain ⟨u208, h⟩ := h
  obtain ⟨u209, h⟩ := h
  obtain ⟨u210, h⟩ := h
  obtain ⟨u211, h⟩ := h
  obtain ⟨u212, h⟩ := h
  obtain ⟨u213, h⟩ := h
  obtain ⟨u214, h⟩ := h
  obtain ⟨u215, h⟩ := h
  obtain ⟨u216, h⟩ := h
  obtain ⟨u217, h⟩ := h
  obtain ⟨u218, h⟩ := h
  obtain ⟨u219, h⟩ := h
  obtain ⟨u220, h⟩ := h
  obtain ⟨u221, h⟩ := h
  obtain ⟨u222, h⟩ := h
  obtain ⟨u223, h⟩ := h
  obtain ⟨u224, h⟩ := h
  obtain ⟨u225, h⟩ := h
  obtain ⟨u226, h⟩ := h
  obtain ⟨u227, h⟩ := h
  obtain ⟨u228, h⟩ := h
  obtain ⟨⟨hF, hB⟩, rfl⟩ := h
  replace hF := Lib.hid hF
  replace hB := Lib.hid hB
  go_wp2_with fail
  refine bodyPost_ret (v := .tuple #[.slice none 0 0, .int .i64 at_, .int .i64 e]) (by simp [results, Try.results12, go_sem]) rfl ?_
  rw [hF.out]
  exact ⟨none, 0, rfl, Row.nil_ _ _ _, Nat.le_refl _, hB.out⟩
 ·intro a2 w2 h
  unfold WX at h
  obtain ⟨out, h⟩ := h
  obtain ⟨ov, h⟩ := h
  obtain ⟨iv, h⟩ := h
  obtain ⟨u7, h⟩ := h
  obtain ⟨u8, h⟩ := h
  obtain ⟨u9, h⟩ := h
  obtain ⟨u10, h⟩ := h
  obtain ⟨u11, h⟩ := h
  obtain ⟨u12, h⟩ := h
  obtain ⟨u13, h⟩ := h
  obtain ⟨u14, h⟩ := h
  obtain ⟨u15, h⟩ := h
  obtain ⟨u16, h⟩ := h
  obtain ⟨u17, h⟩ := h
  obtain ⟨u18, h⟩ := h
  obtain ⟨u19, h⟩ := h
  obtain ⟨u20, h⟩ := h
  obtain ⟨u21, h⟩ := h
  obtain ⟨u22, h⟩ := h
  obtain ⟨u23, h⟩ := h
  obtain ⟨u24, h⟩ := h
  obtain ⟨u25, h⟩ := h
  obtain ⟨u26, h⟩ := h
  obtain ⟨u27, h⟩ := h
  obtain ⟨u28, h⟩ := h
  obtain ⟨u29, h⟩ := h
  obtain ⟨u30, h⟩ := h
  obtain ⟨u31, h⟩ := h
  obtain ⟨u32, h⟩ := h
  obtain ⟨u33, h⟩ := h
  obtain ⟨u34, h⟩ := h
  obtain ⟨u35, h⟩ := h
  obtain ⟨u36, h⟩ := h
  obtain ⟨u37, h⟩ := h
  obtain ⟨u38, h⟩ := h
  obtain ⟨u39, h⟩ := h
  obtain ⟨u40, h⟩ := h
  obtain ⟨u41, h⟩ := h
  obtain ⟨u42, h⟩ := h
  obtain ⟨u43, h⟩ := h
  obtain ⟨u44, h⟩ := h
  obtain ⟨u45, h⟩ := h
  obtain ⟨u46, h⟩ := h
  obtain ⟨u47, h⟩ := h
  obtain ⟨u48, h⟩ := h
  obtain ⟨u49, h⟩ := h
  obtain ⟨u50, h⟩ := h
  obtain ⟨u51, h⟩ := h
  obtain ⟨u52, h⟩ := h
  obtain ⟨u53, h⟩ := h
  obtain ⟨u54, h⟩ := h
  obtain ⟨u55, h⟩ := h
  obtain ⟨u56, h⟩ := h
  obtain ⟨u57, h⟩ := h
  obtain ⟨u58, h⟩ := h
  obtain ⟨u59, h⟩ := h
  obtain ⟨u60, h⟩ := h
  obtain ⟨u61, h⟩ := h
  obtain ⟨u62, h⟩ := h
  obtain ⟨u63, h⟩ := h
  obtain ⟨u64, h⟩ := h
  obtain ⟨u65, h⟩ := h
  obtain ⟨u66, h⟩ := h
  obtain ⟨u67, h⟩ := h
  obtain ⟨u68, h⟩ := h
  obtain ⟨u69, h⟩ := h
  obtain ⟨u70, h⟩ := h
  obtain ⟨u71, h⟩ := h
  obtain ⟨u72, h⟩ := h
  obtain ⟨u73, h⟩ := h
  obtain ⟨u74, h⟩ := h
  obtain ⟨u75, h⟩ := h
  obtain ⟨u76, h⟩ := h
  obtain ⟨u77, h⟩ := h
  obtain ⟨u78, h⟩ := h
  obtain ⟨u79, h⟩ := h
  obtain ⟨u80, h⟩ := h
  obtain ⟨u81, h⟩ := h
  obtain ⟨u82, h⟩ := h
  obtain ⟨u83, h⟩ := h
  obtain ⟨u84, h⟩ := h
  obtain ⟨u85, h⟩ := h
  obtain ⟨u86, h⟩ := h
  obtain ⟨u87, h⟩ := h
  obtain ⟨u88, h⟩ := h
  obtain ⟨u89, h⟩ := h
  obtain ⟨u90, h⟩ := h
  obtain ⟨u91, h⟩ := h
  obtain ⟨u92, h⟩ := h
  obtain ⟨u93, h⟩ := h
  obtain ⟨u94, h⟩ := h
  obtain ⟨u95, h⟩ := h
  obtain ⟨u96, h⟩ := h
  obtain ⟨u97, h⟩ := h
  obtain ⟨u98, h⟩ := h
  obtain ⟨u99, h⟩ := h
  obtain ⟨u100, h⟩ := h
  obtain ⟨u101, h⟩ := h
  obtain ⟨u102, h⟩ := h
  obtain ⟨u103, h⟩ := h
  obtain ⟨u104, h⟩ := h
  obtain ⟨u105, h⟩ := h
  obtain ⟨u106, h⟩ := h
  obtain ⟨u107, h⟩ := h
  obtain ⟨u108, h⟩ := h
  obtain ⟨u109, h⟩ := h
  obtain ⟨u110, h⟩ := h
  obtain ⟨u111, h⟩ := h
  obtain ⟨u112, h⟩ := h
  obtain ⟨u113, h⟩ := h
  obtain ⟨u114, h⟩ := h
  obtain ⟨u115, h⟩ := h
  obtain ⟨u116, h⟩ := h
  obtain ⟨u117, h⟩ := h
  obtain ⟨u118, h⟩ := h
  obtain ⟨u119, h⟩ := h
  obtain ⟨u120, h⟩ := h
  obtain ⟨u121, h⟩ := h
  obtain ⟨u122, h⟩ := h
  obtain ⟨u123, h⟩ := h
  obtain ⟨u124, h⟩ := h
  obtain ⟨u125, h⟩ := h
  obtain ⟨u126, h⟩ := h
  obtain ⟨u127, h⟩ := h
  obtain ⟨u128, h⟩ := h
  obtain ⟨u129, h⟩ := h
  obtain ⟨u130, h⟩ := h
  obtain ⟨u131, h⟩ := h
  obtain ⟨u132, h⟩ := h
  obtain ⟨u133, h⟩ := h
  obtain ⟨u134, h⟩ := h
  obtain ⟨u135, h⟩ := h
  obtain ⟨u136, h⟩ := h
  obtain ⟨u137, h⟩ := h
  obtain ⟨u138, h⟩ := h
  obtain ⟨u139, h⟩ := h
  obtain ⟨u140, h⟩ := h
  obtain ⟨u141, h⟩ := h
  obtain ⟨u142, h⟩ := h
  obtain ⟨u143, h⟩ := h
  obtain ⟨u144, h⟩ := h
  obtain ⟨u145, h⟩ := h
  obtain ⟨u146, h⟩ := h
  obtain ⟨u147, h⟩ := h
  obtain ⟨u148, h⟩ := h
  obtain ⟨u149, h⟩ := h
  obtain ⟨u150, h⟩ := h
  obtain ⟨u151, h⟩ := h
  obtain ⟨u152, h⟩ := h
  obtain ⟨u153, h⟩ := h
  obtain ⟨u154, h⟩ := h
  obtain ⟨u155, h⟩ := h
  obtain ⟨u156, h⟩ := h
  obtain ⟨u157, h⟩ := h
  obtain ⟨u158, h⟩ := h
  obtain ⟨u159, h⟩ := h
  obtain ⟨u160, h⟩ := h
  obtain ⟨u161, h⟩ := h
  obtain ⟨u162, h⟩ := h
  obtain ⟨u163, h⟩ := h
  obtain ⟨u164, h⟩ := h
  obtain ⟨u165, h⟩ := h
  obtain ⟨u166, h⟩ := h
  obtain ⟨u167, h⟩ := h
  obtain ⟨u168, h⟩ := h
  obtain ⟨u169, h⟩ := h
  obtain ⟨u170, h⟩ := h
  obtain ⟨u171, h⟩ := h
  obtain ⟨u172, h⟩ := h
  obtain ⟨u173, h⟩ := h
  obtain ⟨u174, h⟩ := h
  obtain ⟨u175, h⟩ := h
  obtain ⟨u176, h⟩ := h
  obtain ⟨u177, h⟩ := h
  obtain ⟨u178, h⟩ := h
  obtain ⟨u179, h⟩ := h
  obtain ⟨u180, h⟩ := h
  obtain ⟨u181, h⟩ := h
  obtain ⟨u182, h⟩ := h
  obtain ⟨u183, h⟩ := h
  obtain ⟨u184, h⟩ := h
  obtain ⟨u185, h⟩ := h
  obtain ⟨u186, h⟩ := h
  obtain ⟨u187, h⟩ := h
  obtain ⟨u188, h⟩ := h
  obtain ⟨u189, h⟩ := h
  obtain ⟨u190, h⟩ := h
  obtain ⟨u191, h⟩ := h
  obtain ⟨u192, h⟩ := h
  obtain ⟨u193, h⟩ := h
  obtain ⟨u194, h⟩ := h
  obtain ⟨u195, h⟩ := h
  obtain ⟨u196, h⟩ := h
  obtain ⟨u197, h⟩ := h
  obtain ⟨u198, h⟩ := h
  obtain ⟨u199, h⟩ := h
  obtain ⟨u200, h⟩ := h
  obtain ⟨u201, h⟩ := h
  obtain ⟨u202, h⟩ := h
  obtain ⟨u203, h⟩ := h
  obtain ⟨u204, h⟩ := h
  obtain ⟨u205, h⟩ := h
  obtain ⟨u206, h⟩ := h
  obtain ⟨u207, h⟩ := h
  obtain ⟨u208, h⟩ := h
  obtain ⟨u209, h⟩ := h
  obtain ⟨u210, h⟩ := h
  obtain ⟨u211, h⟩ := h
  obtain ⟨u212, h⟩ := h
  obtain ⟨u213, h⟩ := h
  obtain ⟨u214, h⟩ := h
  obtain ⟨u215, h⟩ := h
  obtain ⟨u216, h⟩ := h
  obtain ⟨u217, h⟩ := h
  obtain ⟨u218, h⟩ := h
  obtain ⟨u219, h⟩ := h
  obtain ⟨u220, h⟩ := h
  obtain ⟨u221, h⟩ := h
  obtain ⟨u222, h⟩ := h
  obtain ⟨u223, h⟩ := h
  obtain ⟨u224, h⟩ := h
  obtain ⟨u225, h⟩ := h
  obtain ⟨u226, h⟩ := h
  obtain ⟨u227, h⟩ := h
  obtain ⟨u228, h⟩ := h
  obtain ⟨⟨hF, hO, hB⟩, rfl⟩ := h
  obtain ⟨A, c, hv, hr, hn⟩ := RowS.own (S := fun x => x < w2.heap.size) hO (fun g hg => (hO.lt g hg).2)
  replace hF := Lib.hid hF
  replace hO := Lib.hid hO
  replace hB := Lib.hid hB
  replace hv := Lib.hid hv
  replace hr := Lib.hid hr
  go_wp2_with fail
  refine bodyPost_ret (v := .tuple #[ov, .int .i64 0, .int .i64 0]) (by simp [results, Try.results12, go_sem]) rfl ?_
  rw [hF.out]
  exact ⟨A, c, by rw [hv.out]; rfl, hr.out, hn, hB.out⟩
end Go.Proofs.Ytpndglghpojjkaa
/- A function's text in memory; the walk of Func. -/
namespace Go.Proofs.Ytpndglghpojjkaa
open Go.RowKit Go.Deep

/-- The variables l stand at v, in blocks of S. -/
def VrAt (w : World) (S : Nat → Prop) (l : List Vr) (v : Value) : Prop := ∃ A c, v = .slice A l.length c ∧ l.length ≤ 100000 ∧ l.length ≤ c ∧ RowS w S A (l.flatMap Vr.cells) ∧ ∀ x ∈ l, x.nm.length ≤ 4096
section
variable {w w' : World} {S S' : Nat → Prop} {l : List Vr} {v : Value}
theorem VrAt.keep (hk : ∀ x, x < w.heap.size → S x → w'.heap[x]? = w.heap[x]?) (h : VrAt w S l v) : VrAt w' S l v := by
 obtain ⟨A, c, e, h1, h2, h3, h4⟩ := h
 exact ⟨A, c, e, h1, h2, h3.keep hk, h4⟩
theorem VrAt.mono (hk : ∀ x, x < w.heap.size → S x → S' x) (h : VrAt w S l v) : VrAt w S' l v := by
 obtain ⟨A, c, e, h1, h2, h3, h4⟩ := h
 exact ⟨A, c, e, h1, h2, h3.mono hk, h4⟩
theorem VrAt.nil_ (w : World) (S : Nat → Prop) : VrAt w S [] (.slice none 0 0) := ⟨none, 0, rfl, by simp, by simp, RowS.nil_ _ _ _, by simp⟩
theorem VrAt.own {base : Nat} (h : w.ownsRow base 59 2 v l.length (l.flatMap Vr.cells)) (hl : l.length ≤ 100000) (hn : ∀ x ∈ l, x.nm.length ≤ 4096) : VrAt w (Ge base) l v := by
 obtain ⟨A, c, e, hr, hc⟩ := RowS.own (S := Ge base) h (fun g hg => ownK_ge h hg)
 exact ⟨A, c, e, hl, hc, hr, hn⟩
end
/-- A function's parts stand at their values. -/
structure FnAt (w : World) (S : Nat → Prop) (f : Fnc) (vp vl vb : Value) : Prop where
 nm : f.nm.length ≤ 4096
 ps : VrAt w S f.ps vp
 ls : VrAt w S f.ls vl
 body : SlAt w S f.body vb
theorem FnAt.keep {w w' : World} {S : Nat → Prop} {f : Fnc} {vp vl vb : Value} (hk : ∀ x, x < w.heap.size → S x → w'.heap[x]? = w.heap[x]?) (h : FnAt w S f vp vl vb) : FnAt w' S f vp vl vb := ⟨h.nm, h.ps.keep hk, h.ls.keep hk, h.body.keep hk⟩
theorem FnAt.mono {w : World} {S S' : Nat → Prop} {f : Fnc} {vp vl vb : Value} (hk : ∀ x, x < w.heap.size → S x → S' x) (h : FnAt w S f vp vl vb) : FnAt w S' f vp vl vb := ⟨h.nm, h.ps.mono hk, h.ls.mono hk, h.body.mono hk⟩
theorem FnAt.below {w w' : World} {S : Nat → Prop} {f : Fnc} {vp vl vb : Value} (h : FnAt w S f vp vl vb) (hb : Below w.heap.size w w') : FnAt w' S f vp vl vb := h.keep fun x hx _ => hb.block x hx
/-- What Func leaves. -/
def FnPost (r : Fnc × Nat × Nat) (w : World) (e : Ending) (w' : World) : Prop :=
 ∃ vp vl vb, e = .returned (.tuple #[.agg #[.string (strV r.1.nm), vp, vl, vb], .int .i64 r.2.1, .int .i64 r.2.2]) ∧ FnAt w' (Ge w.heap.size) r.1 vp vl vb ∧ Below w.heap.size w w'
/-- A walk that turns the parser and the function's block. -/
structure VF (C : PC) (Z : PL) (gf B : Nat) (s : PS) (cs : Array Value) (w0 w : World) : Prop where
 at_ : PAt C Z s w
 wr : Writes [some Z.g, some gf] w0 w
 hold : Holds w gf 26 cs
 lt : Z.g < gf
 low : gf < B
 low0 : w0.heap.size = B
section
variable {C : PC} {Z : PL} {gf B : Nat} {s s2 : PS} {cs : Array Value} {w0 w w' : World}
theorem VF.mv (h : VF C Z gf B s cs w0 w) : Moved C Z s w w := Moved.refl h.at_
theorem VF.lt2 (h : VF C Z gf B s cs w0 w) : Z.g < B := Nat.lt_trans h.lt h.low
theorem VF.ltB (h : VF C Z gf B s cs w0 w) : Z.g < B := Nat.lt_trans h.lt h.low
theorem VF.szB (h : VF C Z gf B s cs w0 w) : B ≤ w.heap.size := by rw [← h.low0]; exact h.wr.size
theorem VF.call (h : VF C Z gf B s cs w0 w) (hm : Moved C Z s2 w w') : VF C Z gf B s2 cs w0 w' :=
 ⟨hm.at_, h.wr.trans (hm.wr.more (by simp)), hm.wr.holds h.hold (by have := h.lt; simp; omega), h.lt, h.low, h.low0⟩
theorem VF.store (h : VF C Z gf B s cs w0 w) (i : Nat) (v : Value) : VF C Z gf B s (cs.setIfInBounds i v) w0 (w.setCell ⟨gf, i, none⟩ v) :=
 ⟨h.at_.writes (Writes.store w (M := [some gf]) (by simp) v) (fun k hk => by simp at hk; subst hk; exact h.lt), h.wr.trans (Writes.store w (by simp) v), h.hold.store i v, h.lt, h.low, h.low0⟩
theorem VF.fact (h : VF C Z gf B s cs w0 w) (i : Nat) {v : Value} (hv : cs[i]? = some v) : w.cell? ⟨gf, i, none⟩ = some v := by rw [h.hold.cell]; exact hv
theorem VF.facts (h : VF C Z gf B s cs w0 w) : gf < w.heap.size ∧ (∀ i, w.frozen? ⟨gf, i, none⟩ = false) := ⟨h.hold.lt, fun i => h.hold.frozen i⟩
theorem take_both {L : PL} {b : Bool} {t : List UInt8} (hM : Moved C L s w0 w) (h : takeF C t s = (b, s2)) : Calls Try.prog 15 #[.pointer (some ⟨L.g, 0, none⟩), .string ⟨t.toArray⟩] w fun e w' => e = .returned (.bool b) ∧ Moved C L s2 w0 w' ∧ Writes [some L.g] w w' := by
 unfold takeF at h
 split at h
 ·injection h with h1 h2
  subst h1 h2
  exact take_yes hM t ‹_› rfl
 ·injection h with h1 h2
  subst h1 h2
  exact take_no hM t (by simpa using ‹¬ isF C t s = true›)
end
/-- Behind 'more', ahead of the store. -/
structure MoreAt (C : PC) (Z : PL) (gf B : Nat) (nm : List UInt8) (vp : Value) (r : List Vr × PS) (w0 w : World) (v : Value) : Prop where
 vf : VF C Z gf B r.2 #[.string (strV nm), vp, .slice none 0 0, .slice none 0 0] w0 w
 own : w.ownsRow B 59 2 v r.1.length (r.1.flatMap Vr.cells)
 nms : ∀ x ∈ r.1, x.nm.length ≤ 4096
def MoreDone (C : PC) (Z : PL) (gf B : Nat) (nm : List UInt8) (r : List Vr × PS) (w0 w : World) (v : Value) : Prop :=
 VF C Z gf B r.2 #[.string (strV nm), v, .slice none 0 0, .slice none 0 0] w0 w ∧ w.ownsRow B 59 2 v r.1.length (r.1.flatMap Vr.cells) ∧ ∀ x ∈ r.1, x.nm.length ≤ 4096
section
variable {C : PC} {Z : PL} {gf B : Nat} {s s2 : PS} {nm : List UInt8} {vp v : Value} {r : List Vr × PS} {w0 w w' : World} {ps : List Vr}
theorem MoreAt.cell (h : MoreAt C Z gf B nm vp r w0 w v) : w.cell? ⟨gf, 1, none⟩ = some vp := h.vf.fact 1 rfl
theorem MoreAt.shape (h : MoreAt C Z gf B nm vp r w0 w v) : ∃ A n c, v = .slice A n c := by
 obtain ⟨A, c, e, -, -⟩ := RowS.own (S := fun _ => True) h.own (fun _ _ => trivial)
 exact ⟨A, _, c, e⟩
theorem MoreAt.lt (h : MoreAt C Z gf B nm vp r w0 w v) : gf < w.heap.size := h.vf.hold.lt
theorem MoreAt.frozen (h : MoreAt C Z gf B nm vp r w0 w v) : w.frozen? ⟨gf, 1, none⟩ = false := h.vf.hold.frozen 1
theorem own_st {e : TypeId} {k n : Nat} {xs : List Value} (h : w.ownsRow B e k v n xs) (hg : gf < B) (i : Nat) (u : Value) : (w.setCell ⟨gf, i, none⟩ u).ownsRow B e k v n xs := own_pw h (Writes.store w (by simp) u) hg
theorem MoreAt.done (h : MoreAt C Z gf B nm vp r w0 w v) : MoreDone C Z gf B nm r w0 (w.setCell ⟨gf, 1, none⟩ v) v := ⟨h.vf.store 1 v, own_st h.own h.vf.low 1 v, h.nms⟩
theorem MoreAt.of {n : Nat} {xs : List Value} (h : VF C Z gf B s #[.string (strV nm), vp, .slice none 0 0, .slice none 0 0] w0 w) (h2 : w.ownsRow B 59 2 vp n xs) (hP : PAt C Z r.2 w') (hW : Writes [some Z.g, vp.ownBlock] w w')
  (hO : w'.ownsRow B 59 2 v r.1.length (r.1.flatMap Vr.cells)) (hN : ∀ x ∈ r.1, x.nm.length ≤ 4096) : MoreAt C Z gf B nm vp r w0 w' v := by
 refine ⟨⟨hP, h.wr.then_ hW (fun k hk hm => ?_), hW.holds h.hold ?_, h.lt, h.low, h.low0⟩, hO, hN⟩
 ·simp only [List.mem_cons, List.not_mem_nil, or_false] at hm
  rcases hm with hm | hm
  ·rw [hm]; simp
  ·have := ownK_ge h2 hm.symm
   have := h.low0
   omega
 ·simp only [List.mem_cons, List.not_mem_nil, or_false, not_or]
  refine ⟨by have := h.lt; simp; omega, fun e => ?_⟩
  have := ownK_ge h2 e.symm
  have := h.low
  omega
/-- The region that reads one more parameter: how it stands. -/
structure MReg (C : PC) (Z : PL) (gf B : Nat) (st s1 : PS) (nm : List UInt8) (vp : Value) (ps : List Vr) (r : List Vr × PS) (w0 : World) (l4 l5 l7 : Bool) (w : World) : Prop where
 o1 : l7 = true → l5 = true
 o2 : l5 = true → l4 = true
 a : l4 = false → VF C Z gf B st #[.string (strV nm), vp, .slice none 0 0, .slice none 0 0] w0 w ∧ w.ownsRow B 59 2 vp ps.length (ps.flatMap Vr.cells)
 b : l4 = true → l5 = false → VF C Z gf B s1 #[.string (strV nm), vp, .slice none 0 0, .slice none 0 0] w0 w ∧ w.ownsRow B 59 2 vp ps.length (ps.flatMap Vr.cells)
 c : l7 = true → ∃ v, MoreDone C Z gf B nm r w0 w v
theorem MReg.cell {st s1 : PS} {l4 l5 l7 : Bool} (h : MReg C Z gf B st s1 nm vp ps r w0 l4 l5 l7 w) (h5 : l5 = false) : w.cell? ⟨gf, 1, none⟩ = some vp := by
 cases h4 : l4 with
 | true => exact (h.b h4 h5).1.fact 1 rfl
 | false => exact (h.a h4).1.fact 1 rfl
end
/-- The end of a function whose results are a struct in memory and two slots. -/
theorem ret_cell3 {fn : Func} {p u v : Tmp} {ty : TypeId} {R : Ending → World → Prop} {a : Act} {w : World} {g : Nat} {t : TypeId} {cs : Array Value} {fs : Array Field} (h : fn.results = #[.cell p ty, .tmp u, .tmp v]) (hd0 : a.defers = []) (hp : a.tmps.getD p undef = .pointer (some ⟨g, 0, none⟩))
  (hg : Holds w g t cs) (hu : Try.prog.underlying ty = some (.struct fs)) (hi : (Try.prog.info? ty).map (·.size) = some cs.size)
  (hR : R (.returned (.tuple #[.agg cs, a.tmps.getD u undef, a.tmps.getD v undef])) w) : bodyPost Try.prog fn R .ret a w := by
 refine bodyPost_ret_by (v := .tuple #[.agg cs, a.tmps.getD u undef, a.tmps.getD v undef]) ?_ hd0 hR
 have hp' : a.tmps[p]?.getD undef = .pointer (some ⟨g, 0, none⟩) := by simpa [Array.getD_eq_getD_getElem?] using hp
 simp [results, h, hp', asAddr, run_loadVar_row w g t ty cs (0, 0) _ hg hu rfl hi, Result.andThen, Array.getD_eq_getD_getElem?]
theorem Try.sFunc : (Try.prog.info? 26).map (·.size) = some 4 := by kernel_rfl
def zero4 : Array Value := #[.string ⟨#[]⟩, .slice none 0 0, .slice none 0 0, .slice none 0 0]
theorem Holds.put4 {w : World} {g : Nat} {t : TypeId} {a b c d : Value} (h : Holds w g t #[a, b, c, d]) (x y z u : Value) : Holds ((((w.setCell ⟨g, 0, none⟩ x).setCell ⟨g, 1, none⟩ y).setCell ⟨g, 2, none⟩ z).setCell ⟨g, 3, none⟩ u) g t #[x, y, z, u] := by
 have := (((h.store 0 x).store 1 y).store 2 z).store 3 u
 simpa using this
theorem put4_writes (w : World) (g : Nat) (x y z u : Value) : Writes [some g] w ((((w.setCell ⟨g, 0, none⟩ x).setCell ⟨g, 1, none⟩ y).setCell ⟨g, 2, none⟩ z).setCell ⟨g, 3, none⟩ u) :=
 (((Writes.store w (by simp) x).trans (Writes.store _ (by simp) y)).trans (Writes.store _ (by simp) z)).trans (Writes.store _ (by simp) u)
theorem FnAt.none_ (w : World) (S : Nat → Prop) : FnAt w S Fnc.none (.slice none 0 0) (.slice none 0 0) (.slice none 0 0) := ⟨by simp [Fnc.none], VrAt.nil_ _ _, VrAt.nil_ _ _, SlAt.nil_ _ _⟩
/-- The loop over parameters, and over locals: how it stands. -/
structure ParL (C : PC) (Z : PL) (gf B : Nat) (F : Nat → List Vr → PS → List Vr × PS) (R : List Vr × PS) (cs : Value → Array Value) (f : Nat) (l : List Vr) (s : PS) (v : Value) (w0 w : World) : Prop where
 eq : F f l s = R
 fuel : s.e = 0 → C.tk.length < s.i + f ∧ l.length ≤ s.i
 len : l.length ≤ 4999
 nms : ∀ x ∈ l, x.nm.length ≤ 4096
 vf : VF C Z gf B s (cs v) w0 w
 own : w.ownsRow B 59 2 v l.length (l.flatMap Vr.cells)
theorem nameF_next {C : PC} {s : PS} (h : (nameF C s).2.e = 0) : s.i + 1 ≤ (nameF C s).2.i := by
 unfold nameF at h ⊢
 split
 ·exact Nat.le_refl _
 ·rename_i hi
  rw [if_neg hi] at h
  exact absurd h (failF_e 51 (by decide) s)
theorem moreV_next {C : PC} {l : List Vr} {p : Bool} {m : Nat} {s : PS} (h : (moreV C l p m s).2.e = 0) : s.i + 1 ≤ (moreV C l p m s).2.i ∧ (moreV C l p m s).1.length = l.length + 1 := by
 unfold moreV at h ⊢
 split
 ·rename_i hi
  rw [if_pos hi] at h
  exact absurd h (failF_e 53 (by decide) s)
 ·rename_i hi
  rw [if_neg hi] at h
  exact ⟨nameF_next h, by simp⟩
theorem moreV_len {C : PC} {l : List Vr} {p : Bool} {m : Nat} {s : PS} : (moreV C l p m s).1.length ≤ l.length + 1 := by
 unfold moreV
 split
 ·simp
 ·simp
/-- Behind 'more' at the locals. -/
theorem VF.more {B2 : Nat} {C : PC} {Z : PL} {gf B : Nat} {s s2 : PS} {cs : Array Value} {w0 w w' : World} {e : TypeId} {k n : Nat} {v : Value} {xs : List Value} (h : VF C Z gf B s cs w0 w) (h2 : w.ownsRow B2 e k v n xs) (hB : B ≤ B2) (hP : PAt C Z s2 w') (hW : Writes [some Z.g, v.ownBlock] w w') : VF C Z gf B s2 cs w0 w' := by
 refine ⟨hP, h.wr.then_ hW (fun k hk hm => ?_), hW.holds h.hold ?_, h.lt, h.low, h.low0⟩
 ·simp only [List.mem_cons, List.not_mem_nil, or_false] at hm
  rcases hm with hm | hm
  ·rw [hm]; simp
  ·have := ownK_ge h2 hm.symm
   have := h.low0
   omega
 ·simp only [List.mem_cons, List.not_mem_nil, or_false, not_or]
  refine ⟨by have := h.lt; simp; omega, fun e => ?_⟩
  have := ownK_ge h2 e.symm
  have := h.low
  omega
/-- The blocks between B and B2. -/
def Mid (B B2 : Nat) (x : Nat) : Prop := B ≤ x ∧ x < B2
theorem VrAt.more {B B2 g : Nat} {w w' : World} {l : List Vr} {vp v : Value} {e : TypeId} {k n : Nat} {xs : List Value} (h : VrAt w (Mid B B2) l vp) (hg : g < B) (h2 : w.ownsRow B2 e k v n xs) (hW : Writes [some g, v.ownBlock] w w') : VrAt w' (Mid B B2) l vp :=
 h.keep fun x hx hS => hW.block x hx (fun e => by
  simp only [List.mem_cons, List.not_mem_nil, or_false, Option.some.injEq] at e
  rcases e with e | e
  ·subst e; exact absurd hS.1 (Nat.not_le_of_lt hg)
  ·have := ownK_ge h2 e.symm
   exact absurd hS.2 (Nat.not_lt_of_le this))
theorem VrAt.pw {S : Nat → Prop} {g : Nat} {w w' : World} {l : List Vr} {vp : Value} (h : VrAt w S l vp) (hW : Writes [some g] w w') (hg : ¬ S g) : VrAt w' S l vp :=
 h.keep fun x hx hS => hW.block x hx (fun e => by simp at e; subst e; exact hg hS)
theorem Mid.not {B B2 g : Nat} (h : g < B) : ¬ Mid B B2 g := fun x => absurd x.1 (Nat.not_le_of_lt h)
/-- The loop over locals: how it stands. -/
structure LocL (C : PC) (Z : PL) (gf B B2 : Nat) (R : List Vr × PS) (nm : List UInt8) (P : List Vr) (vp : Value) (f : Nat) (l : List Vr) (s : PS) (v : Value) (w0 w : World) : Prop where
 eq : localsL C f l s = R
 fuel : s.e = 0 → C.tk.length < s.i + f ∧ l.length ≤ s.i
 len : l.length ≤ 4999
 nms : ∀ x ∈ l, x.nm.length ≤ 4096
 vf : VF C Z gf B s #[.string (strV nm), vp, v, .slice none 0 0] w0 w
 own : w.ownsRow B2 59 2 v l.length (l.flatMap Vr.cells)
 par : VrAt w (Mid B B2) P vp
 lo : B ≤ B2
 hi : B2 ≤ w.heap.size
theorem bodyAt_ok {C : PC} {s : PS} (hf : s.Few) : (bodyAt C s).Few ∧ ((bodyAt C s).e = 0 → (bodyAt C s).deep = s.deep + 1) := by
 unfold bodyAt
 have key : ∀ t : PS, t.Few → (failF C 51 t).Few ∧ ((failF C 51 t).e = 0 → (failF C 51 t).deep = s.deep + 1) := fun t ht => by
  have h1 := (Stp.fail (C := C) 51 (by decide) t).nn ht
  exact ⟨h1, fun h => absurd h (failF_e 51 (by decide) t)⟩
 by_cases h : (isF C [123] s && (openF C s).1) = true
 ·rw [if_pos h]
  rw [Bool.and_eq_true] at h
  have h2 := h.2
  unfold openF at h2 ⊢
  by_cases he : s.e = 0
  ·rw [if_neg (by simpa using he)] at h2 ⊢
   by_cases h4 : 40 ≤ s.deep
   ·rw [if_pos h4] at h2; cases h2
   ·rw [if_neg h4]
    exact ⟨hf, fun _ => rfl⟩
  ·rw [if_pos he] at h2; cases h2
 ·rw [if_neg h]
  refine key _ ?_
  split
  ·unfold openF
   split
   ·exact hf
   ·split
    ·exact (Stp.fail (C := C) 52 (by decide) s).nn hf
    ·exact hf
  ·exact hf
theorem stmts_39 {C : PC} {Z : PL} (w : World) (s : PS) (hP : PAt C Z s w) (hd : s.e = 0 → 1 ≤ s.deep) (hf : s.Few) : Calls Try.prog 20 #[.pointer (some ⟨Z.g, 0, none⟩)] w (SlPost C Z (stmtsD C 39 s) w) := by
 by_cases he : s.e = 0
 ·exact (stmts_all 39 (by decide)).2 C Z w s hP (by have := hd he; omega) hf
 ·have h := (stmts_all 40 (by decide)).2 C Z w s hP (Nat.zero_le _) hf
  have e : stmtsD C 40 s = stmtsD C 39 s := by
   unfold stmtsD stmtsF stmtsL
   rw [if_pos he, if_pos he]
  rw [← e]
  exact h
/-- The region that answers an error: how it stands. -/
structure RetR (Z : PL) (s : PS) (wE wR : World) (l : Bool) (w : World) : Prop where
 c3 : w.cell? ⟨Z.g, 3, none⟩ = some (.int .i64 s.e)
 c4 : w.cell? ⟨Z.g, 4, none⟩ = some (.int .i64 s.at_)
 lt : Z.g < w.heap.size
 a : l = false → w = wE
 b : l = true → w = wR
theorem VF.cells_ {C : PC} {Z : PL} {gf B : Nat} {s : PS} {cs : Array Value} {w0 w : World} (h : VF C Z gf B s cs w0 w) : w.cell? ⟨Z.g, 3, none⟩ = some (.int .i64 s.e) ∧ w.cell? ⟨Z.g, 4, none⟩ = some (.int .i64 s.at_) ∧ Z.g < w.heap.size :=
 ⟨h.at_.facts.2.2.2.2.1, h.at_.facts.2.2.2.2.2.1, h.at_.lt⟩
theorem VF.drew_ {C : PC} {Z : PL} {gf B : Nat} {s : PS} {cs : Array Value} {w0 w : World} (h : VF C Z gf B s cs w0 w) (n : Nat) : VF C Z gf B s cs w0 (w.drewN n) := h.call (Moved.drewN h.at_ n)
theorem VF.drew1 {C : PC} {Z : PL} {gf B : Nat} {s : PS} {cs : Array Value} {w0 w : World} (h : VF C Z gf B s cs w0 w) : VF C Z gf B s cs w0 w.drew := h.call ((Moved.refl h.at_).below (Below.refl _ w).drew)
/-- The answer's block, at any time of the walk. -/
theorem VF.ans {C : PC} {Z : PL} {gf B gr : Nat} {s : PS} {cs qs : Array Value} {t : TypeId} {w0 w : World} (h : VF C Z gf B s cs w0 w) (hr : Holds w0 gr t qs) (hlt : gr < Z.g) : Holds w gr t qs :=
 h.wr.holds hr (by have := h.lt; simp; omega)
theorem ans_cells {w : World} {gr : Nat} {t : TypeId} (h : Holds w gr t zero4) : w.cell? ⟨gr, 0, none⟩ = some (.string ⟨#[]⟩) ∧ w.cell? ⟨gr, 1, none⟩ = some (.slice none 0 0) ∧ w.cell? ⟨gr, 2, none⟩ = some (.slice none 0 0) ∧ w.cell? ⟨gr, 3, none⟩ = some (.slice none 0 0) ∧ gr < w.heap.size ∧ ∀ i, w.frozen? ⟨gr, i, none⟩ = false :=
 ⟨h.cell 0, h.cell 1, h.cell 2, h.cell 3, h.lt, fun i => h.frozen i⟩
theorem put4_cell {w : World} {g : Nat} {x y z u : Value} {p : Addr} (h : p.block ≠ g) : ((((w.setCell ⟨g, 0, none⟩ x).setCell ⟨g, 1, none⟩ y).setCell ⟨g, 2, none⟩ z).setCell ⟨g, 3, none⟩ u).cell? p = w.cell? p := by
 have hb := fun (v : World) (i : Nat) (a : Value) => World.cell?_of_block (Below.heap_setCell v ⟨g, i, none⟩ a p.block (by simpa using h))
 rw [hb, hb, hb, hb]
theorem put4_size (w : World) (g : Nat) (x y z u : Value) : ((((w.setCell ⟨g, 0, none⟩ x).setCell ⟨g, 1, none⟩ y).setCell ⟨g, 2, none⟩ z).setCell ⟨g, 3, none⟩ u).heap.size = w.heap.size := by simp
set_option maxRecDepth 100000 in
set_option maxHeartbeats 16000000 in
theorem func_any (w : World) (s : ByteArray) (hs : s.size ≤ maxLen) : Calls Try.prog 5 #[.string s] w (FnPost (funcF s.data.toList) w) := by
 obtain ⟨R, hR⟩ : ∃ x, x = funcF s.data.toList := ⟨_, rfl⟩
 rw [← hR]
 obtain ⟨lx, hlx⟩ : ∃ x, x = lexF s.data.toList := ⟨_, rfl⟩
 have htk := fun w => tokens_any w s hs
 rw [← hlx] at htk
 replace htk := Lib.hid htk
 have hs' := hs
 unfold maxLen at hs'
 obtain ⟨wr, hwr⟩ : ∃ x, x = w.alloc (.cells zero4 26) := ⟨_, rfl⟩
 obtain ⟨gr, hgr⟩ : ∃ x, x = w.heap.size := ⟨_, rfl⟩
 have hHr : Holds wr gr 26 zero4 := by rw [hwr, hgr]; exact Holds.new w _ _
 have hb0 : Below w.heap.size w wr := by rw [hwr]; exact below_new w _
 have hszr : wr.heap.size = w.heap.size + 1 := by rw [hwr]; simp
 unfold zero4 at hwr
 replace hR := Lib.hid hR
 replace hlx := Lib.hid hlx
 go_enter Try.func5, Try.ntmps5
 go_wp2_with fail
 rw [← hwr, ← hgr]
 clear hwr
 replace hHr := Lib.hid hHr
 replace hb0 := Lib.hid hb0
 refine (htk.out wr).mono ?_
 clear htk
 rintro e w1 ⟨A, c, rfl, hrow, hlc, hb1⟩
 have hgrw : gr < wr.heap.size := by omega
 have hgw : w.heap.size ≤ gr := by omega
 have hHr1 := hHr.out.below hb1 hgrw
 have hB1 := hb0.out.trans (hb1.mono (by omega))
 replace hgr := Lib.hid hgr
 replace hszr := Lib.hid hszr
 clear hHr hb0 hb1
 by_cases he : lx.2.2 = 0
 case neg =>
  have he' : ((lx.2.2 : Int) != 0) = true := by simp; omega
  have hF : Hid (R = (Fnc.none, lx.2.1, lx.2.2)) := Lib.hid (by rw [hR.out]; unfold funcF; rw [← hlx.out, if_pos he])
  have g0 := hHr1.lt
  have gz := fun i => hHr1.frozen i
  have k0 : w1.cell? ⟨gr, 0, none⟩ = some (.string ⟨#[]⟩) := hHr1.cell 0
  have k1 : w1.cell? ⟨gr, 1, none⟩ = some (.slice none 0 0) := hHr1.cell 1
  have k2 : w1.cell? ⟨gr, 2, none⟩ = some (.slice none 0 0) := hHr1.cell 2
  have k3 : w1.cell? ⟨gr, 3, none⟩ = some (.slice none 0 0) := hHr1.cell 3
  replace hHr1 := Lib.hid hHr1
  replace hB1 := Lib.hid hB1
  replace hrow := Lib.hid hrow
  clear he hR hlx
  go_wp2_with fail
  refine ret_cell3 rfl rfl rfl (hHr1.out.put4 _ _ _ _) Try.underlying26 Try.sFunc ?_
  rw [hF.out]
  refine ⟨_, _, _, rfl, FnAt.none_ _ _, hB1.out.trans ((put4_writes w1 gr _ _ _ _).below hB1.out.size (fun k hk => by simp at hk; omega))⟩
 case pos =>
  have he' : ((lx.2.2 : Int) != 0) = false := by simp; omega
  obtain ⟨C, hC⟩ : ∃ C : PC, C = ⟨lx.1, s.data.toList.length⟩ := ⟨_, rfl⟩
  obtain ⟨g, hg⟩ : ∃ x, x = w1.heap.size := ⟨_, rfl⟩
  obtain ⟨Z, hZ⟩ : ∃ Z : PL, Z = ⟨g, A, c⟩ := ⟨_, rfl⟩
  obtain ⟨s0, hs0⟩ : ∃ x : PS, x = ⟨0, 0, 0, 0, 0⟩ := ⟨_, rfl⟩
  obtain ⟨w2, hw2⟩ : ∃ x, x = w1.alloc (.cells (s0.cells C Z) 51) := ⟨_, rfl⟩
  obtain ⟨w3, hw3⟩ : ∃ x, x = w2.alloc (.cells zero4 26) := ⟨_, rfl⟩
  obtain ⟨gf, hgf⟩ : ∃ x, x = w2.heap.size := ⟨_, rfl⟩
  obtain ⟨B, hB⟩ : ∃ x, x = w3.heap.size := ⟨_, rfl⟩
  have hz2 : w2.heap.size = w1.heap.size + 1 := by rw [hw2]; simp
  have hz3 : w3.heap.size = w2.heap.size + 1 := by rw [hw3]; simp
  have hb2 : Below w1.heap.size w1 w2 := by rw [hw2]; exact below_new w1 _
  have hb3 : Below w2.heap.size w2 w3 := by rw [hw3]; exact below_new w2 _
  have hfit : C.Fit := by rw [hC, hlx.out]; exact lexF_fit _ (by rw [← hlx.out]; exact he)
  have hP2 : PAt C Z s0 w2 := ⟨hfit, by rw [hs0]; exact ⟨by simp, by simp, by simp, by simp, by simp⟩, by have := Holds.new w1 51 (s0.cells C Z); rw [← hw2] at this; rw [show Z.g = w1.heap.size by rw [hZ]; exact hg]; exact this, by rw [show Z.g = w1.heap.size by rw [hZ]; exact hg, show Z.A = A by rw [hZ], show C.tk = lx.1 by rw [hC]]; exact hrow.keep fun p hp => hb2.cell hp⟩
  have hVF : Hid (VF C Z gf B s0 zero4 w3 w3) := Lib.hid ⟨hP2.up hb3, Writes.refl _ _, by rw [hgf, hw3]; exact Holds.new w2 _ _, by rw [hZ]; simp only; omega, by omega, hB.symm⟩
  have hHr3 : Hid (Holds w3 gr 26 zero4) := Lib.hid ((hHr1.below hb2 hHr1.lt).below hb3 (by have := hHr1.lt; omega))
  have hB3 : Hid (Below w.heap.size w w3) := Lib.hid (hB1.trans ((hb2.trans (hb3.mono hb2.size)).mono hB1.size))
  have hR2 : Hid (R = funcP C) := Lib.hid (by rw [hR.out]; unfold funcF; rw [← hlx.out, if_neg (by omega), hC])
  have hgr3 : gr < g := by have := hHr1.lt; omega
  have hZg : Hid (Z.g = g) := Lib.hid (by rw [hZ])
  have hgfe : Hid (gf = g + 1) := Lib.hid (by omega)
  have hcl : Hid (C.tk.length = lx.1.length ∧ C.end_ = s.size) := Lib.hid (by rw [hC]; exact ⟨rfl, rfl⟩)
  have hw3e : Hid ((w1.alloc (.cells #[.slice A lx.1.length c, .int .i64 0, .int .i64 s.size, .int .i64 0, .int .i64 0, .int .i64 0, .int .i64 0] 51)).alloc (.cells #[.string ⟨#[]⟩, .slice none 0 0, .slice none 0 0, .slice none 0 0] 26) = w3) := Lib.hid (by
   rw [hw3, hw2, hs0, hZ, hC]
   rfl)
  obtain ⟨s1, hs1⟩ : ∃ y, y = wantF C [102, 110] s0 := ⟨_, rfl⟩
  obtain ⟨nm, hnm⟩ : ∃ y, y = (nameF C s1).1 := ⟨_, rfl⟩
  obtain ⟨s2, hs2⟩ : ∃ y, y = (nameF C s1).2 := ⟨_, rfl⟩
  have hnf : Hid (nameF C s1 = (nm, s2)) := Lib.hid (by rw [hnm, hs2])
  obtain ⟨s3, hs3⟩ : ∃ y, y = wantF C [40] s2 := ⟨_, rfl⟩
  have hhead : Hid (headF C = (nm, s2)) := Lib.hid (by rw [hnm, hs2, hs1, hs0]; rfl)
  have hstp : Hid (Stp C s0 s3) := Lib.hid (by rw [hs3, hs2, hs1]; exact ((Stp.want _ _).trans (Stp.name _)).trans (Stp.want _ _))
  have hs00 : Hid (s0 = ⟨0, 0, 0, 0, 0⟩) := Lib.hid hs0
  replace hs1 := Lib.hid hs1
  replace hs3 := Lib.hid hs3
  replace hgr := hgr
  clear hnm hs2 hs0 hw3 hw2 hz2 hz3 hb2 hb3 hC hP2 hHr1 hB1 hrow hfit he hlx
  have hgB : gf < B := hVF.out.low
  have hzB : Z.g < B := hVF.out.lt2
  have hBw : B = w3.heap.size := hB
  replace hBw := Lib.hid hBw
  replace hB := Lib.hid hB
  replace hZ := Lib.hid hZ
  have hg1 := hg
  have hgf1 : w1.heap.size + 1 = gf := by have := hgfe.out; omega
  have hg2 : w1.heap.size = Z.g := by rw [hZg.out]; exact hg.symm
  replace hg1 := Lib.hid hg1
  clear hgf hg
  replace hgf1 := Lib.hid hgf1
  replace hg2 := Lib.hid hg2
  go_upto_region 6 with (fail)
  rw [hgf1.out, hg2.out, hw3e.out]
  clear hgf1 hg2 hw3e
  obtain ⟨w0, hw0⟩ : ∃ x, x = w3 := ⟨_, rfl⟩
  replace hw0 := Lib.hid hw0
  go_wp2_with fail
  refine (want_from hVF.out.mv [102, 110] hs1.out.symm).mono ?_
  rintro e w4 ⟨rfl, q4, -⟩
  have V4 := Lib.hid (hVF.out.call q4)
  clear q4
  go_wp2_with fail
  refine (name_from V4.out.mv hnf.out).mono ?_
  rintro e w5 ⟨rfl, q5, hnl, -⟩
  have V5 := V4.out.call q5
  obtain ⟨fl, fz⟩ := V5.facts
  have f0 := V5.fact 0 rfl
  have V6 : VF C Z gf B s2 #[.string (strV nm), .slice none 0 0, .slice none 0 0, .slice none 0 0] w3 (w5.setCell ⟨gf, 0, none⟩ (.string (strV nm))) := V5.store 0 (.string (strV nm))
  obtain ⟨w6, hw6⟩ : ∃ x, x = w5.setCell ⟨gf, 0, none⟩ (.string (strV nm)) := ⟨_, rfl⟩
  rw [← hw6] at V6
  replace V6 := Lib.hid V6
  clear q5 V5 V4
  go_wp2_with fail
  rw [← hw6]
  clear hw6 fl fz f0
  refine (want_from V6.out.mv [40] hs3.out.symm).mono ?_
  rintro e w7 ⟨rfl, q7, -⟩
  have V7 := Lib.hid (V6.out.call q7)
  clear q7 V6
  obtain ⟨R1, hR1⟩ : ∃ y, y = psF C := ⟨_, rfl⟩
  have hR1e : Hid (paramsF C s3 = R1) := Lib.hid (by rw [hR1, hs3.out]; unfold psF; rw [hhead.out])
  replace hR1 := Lib.hid hR1
  obtain ⟨b, hb⟩ : ∃ y, y = (takeF C [41] s3).1 := ⟨_, rfl⟩
  obtain ⟨s4, hs4⟩ : ∃ y, y = (takeF C [41] s3).2 := ⟨_, rfl⟩
  have htk4 : Hid (takeF C [41] s3 = (b, s4)) := Lib.hid (by rw [hb, hs4])
  have hbF : Hid (b = isF C [41] s3 ∧ (b = true → s4 = s3.next) ∧ (b = false → s4 = s3)) := Lib.hid (by
   rw [hb, hs4]
   unfold takeF
   cases isF C [41] s3 <;> simp)
  clear hb hs4
  go_wp2_with fail
  refine (take_both V7.out.mv htk4.out).mono ?_
  rintro e w8 ⟨rfl, q8, -⟩
  have V8 := Lib.hid (V7.out.call q8)
  clear q8 V7
  go_upto_if 36 with (fail)
  go_cut [] (fun wc => Hid (∃ vp, VF C Z gf B R1.2 #[.string (strV nm), vp, .slice none 0 0, .slice none 0 0] w3 wc ∧ wc.ownsRow B 59 2 vp R1.1.length (R1.1.flatMap Vr.cells) ∧ R1.1.length ≤ 5000 ∧ ∀ x ∈ R1.1, x.nm.length ≤ 4096))
  case first =>
   --BR
   cases b with
   | true =>
    have hF : Hid (R1 = ([], s4)) := Lib.hid (by rw [← hR1e.out, hbF.out.2.1 rfl]; unfold paramsF; rw [← hbF.out.1]; rfl)
    go_wp2_with fail
    go_meet
    case rel =>
     rw [hF.out]
     exact Lib.hid ⟨_, V8.out, ⟨rfl, .inl ⟨rfl, rfl⟩⟩, by simp, by simp⟩
   | false =>
    have hF : Hid (paramsL C (C.tk.length + 1) [] s4 = R1) := Lib.hid (by rw [← hR1e.out, hbF.out.2.2 rfl]; unfold paramsF; rw [← hbF.out.1]; rfl)
    have hlen := V8.out.at_.fit.len
    have hL1 : Hid (ParL C Z gf B (paramsL C) R1 (fun v => #[.string (strV nm), v, .slice none 0 0, .slice none 0 0]) (C.tk.length + 1) [] s4 (.slice none 0 0) w3 w8) :=
     Lib.hid ⟨hF.out, fun _ => ⟨by omega, by simp⟩, by simp, by simp, V8.out, ⟨rfl, .inl ⟨rfl, rfl⟩⟩⟩
    clear hF
    go_wp2_with fail
    go_loopw [] (fun wr => ∃ (f : Nat) (ps : List Vr) (st : PS) (vp : Value), Hid (ParL C Z gf B (paramsL C) R1 (fun v => #[.string (strV nm), v, .slice none 0 0, .slice none 0 0]) f ps st vp w3 wr)) (fun wr => left2 Z wr)
    case atStart => exact ⟨_, _, _, _, hL1⟩
    clear hL1
    obtain ⟨f, ps, st, vp, hL⟩ := hrel
    rename World => wl
    have hV := hL.out.vf
    obtain ⟨a0, d0, d1, d2, d3, d4, d5, d6, dfz⟩ := hV.mv.facts
    obtain ⟨b1, b2, b3, b4, b5, b6, b7⟩ := hV.at_.bounds
    replace hV := Lib.hid hV
    by_cases he : st.e = 0
    case neg =>
     have he' : ((st.e : Int) == 0) = false := by simp; omega
     have hF : Hid (R1 = (ps, st)) := Lib.hid (by
      rw [← hL.out.eq]
      cases f with
      | zero => rfl
      | succ f => unfold paramsL; rw [if_pos he])
     go_wp2_with fail
     go_meet
     case rel =>
      rw [hF.out]
      exact Lib.hid ⟨_, hL.out.vf, hL.out.own, by have := hL.out.len; simp only; omega, hL.out.nms⟩
    have he' : ((st.e : Int) == 0) = true := by simp; omega
    have hfu := hL.out.fuel he
    obtain ⟨f', hff⟩ : ∃ f', f = f' + 1 := ⟨f - 1, by omega⟩
    obtain ⟨tk, htk0⟩ : ∃ y, y = (takeF C [42] st).1 := ⟨_, rfl⟩
    obtain ⟨s1', hs1'⟩ : ∃ y, y = (takeF C [42] st).2 := ⟨_, rfl⟩
    have hst1 : Stp C st s1' := by rw [hs1']; exact Stp.take_ _ _
    have htk : Hid (takeF C [42] st = (tk, s1')) := Lib.hid (by rw [htk0, hs1'])
    obtain ⟨r, hr⟩ : ∃ y, y = moreV C ps tk 6 s1' := ⟨_, rfl⟩
    have hst2 : Hid (Stp C st r.2) := Lib.hid (by rw [hr]; exact hst1.trans (moreV_stp _ _ _ _))
    have hnx : Hid (r.2.e = 0 → s1'.i + 1 ≤ r.2.i ∧ r.1.length = ps.length + 1) := Lib.hid (fun h => by rw [hr] at h ⊢; exact moreV_next h)
    have hrl : r.1.length ≤ ps.length + 1 := by rw [hr]; exact moreV_len
    have hRR : Hid (R1 = if isF C [41] r.2 then (r.1, r.2.next) else paramsL C f' r.1 (wantF C [44] r.2)) := Lib.hid (by
     rw [← hL.out.eq, hff, hr, htk0, hs1']
     conv => lhs; unfold paramsL
     rw [if_neg (by omega)])
    have hi1 := hst1.i1
    have he0 := Lib.hid he
    have hff' := Lib.hid hff
    replace hr := Lib.hid hr
    clear htk0 hs1' hst1 he hff
    go_wp2_with fail
    have hbd := Below.refl wl.heap.size wl
    have hgo : Hid (MReg C Z gf B st s1' nm vp ps (moreV C ps tk 6 s1') w3 false false false wl.drew) := Lib.hid ⟨fun h => (by cases h), fun h => (by cases h), fun _ => ⟨hV.out.call ((hV.out.mv).below hbd.drew), own_below hL.out.own hbd.drew⟩, fun h => (by cases h), fun h => (by cases h)⟩
    have hps : Hid (ps.length ≤ 5000) := Lib.hid (by have := hL.out.len; omega)
    have hpn := Lib.hid hL.out.nms
    clear hbd a0 d0 d1 d2 d3 d4 d5 d6 dfz
    refine wp_region_tabL ((fun _ _ v => v = .pointer (some ⟨Z.g, 0, none⟩)) ::
     (fun _ _ v => v = .pointer (some ⟨gf, 1, none⟩)) ::
     (fun _ _ v => v = vp) ::
     (fun _ _ v => v = .pointer (some ⟨Z.g, 0, none⟩)) ::
     (fun _ _ v => v = .bool tk) ::
     (fun L w v => L 5 = true → L 7 = false → MoreAt C Z gf B nm vp (moreV C ps tk 6 s1') w3 w v) ::
     (fun _ _ v => v = .pointer (some ⟨gf, 1, none⟩)) ::
     (fun _ _ _ => True) :: [])
     (⟨[(8, none)], 0, [5, 7]⟩ :: ⟨[(9, none)], 0, [5, 7]⟩ :: ⟨[(43, some 1)], 0, [5, 7]⟩ :: ⟨[(8, none)], 0, [5, 7]⟩ :: ⟨[(45, some 3)], 0, [5, 7]⟩ :: ⟨[(42, some 0), (44, some 2), (46, some 4)], 0, [7]⟩ :: ⟨[(9, none)], 0, [7]⟩ :: ⟨[(48, some 6), (47, some 5)], 0, []⟩ :: [])
     (none :: none :: none :: none :: none :: none :: none :: none :: none :: none :: none :: none :: none :: none :: none :: none :: none :: none :: none :: none :: none :: none :: none :: none :: none :: none :: none :: none :: none :: none :: none :: none :: none :: none :: none :: none :: none :: none :: none :: none :: none :: none :: some 0 :: some 1 :: some 2 :: some 3 :: some 4 :: some 5 :: some 6 :: [])
     (fun L w' => MReg C Z gf B st s1' nm vp ps (moreV C ps tk 6 s1') w3 (L 4) (L 5) (L 7) w') (fun i w w' => i ≠ 4 → i ≠ 5 → i ≠ 7 → w' = w) ?mixK11 ?okK11 ?tabK11 ?frK11 ?inK11 ?keptK11 ?startK11 ?eachK11 ?finK11
    case mixK11 => kernel_rfl
    case okK11 => kernel_rfl
    case tabK11 => kernel_rfl
    case frK11 => kernel_rfl
    case inK11 => rfl
    case keptK11 => exact ⟨fun _ _ _ _ _ _ _ _ _ _ _ h => h, fun _ _ _ _ _ _ _ _ _ _ _ h => h, fun _ _ _ _ _ _ _ _ _ _ _ h => h, fun _ _ _ _ _ _ _ _ _ _ _ h => h, fun _ _ _ _ _ _ _ _ _ _ _ h => h, fun i hne hr L w w' v hLi hC hC' hG h h1 h2 => by
       have n5 : (5 == i) = false := by simpa using fun e => hne e.symm
       have a1 : L 5 = true := by simpa [n5] using h1
       have n7 : i ≠ 7 := fun e => by subst e; simp at h2
       have n7' : (7 == i) = false := by simpa using fun e => n7 e.symm
       have a2 : L 7 = false := by simpa [n7'] using h2
       have n4 : i ≠ 4 := fun e => by subst e; exact absurd (hC.o2 a1) (by rw [hLi]; simp)
       rw [hG n4 (fun e => hne e) n7]
       exact h a1 a2, fun _ _ _ _ _ _ _ _ _ _ _ h => h, fun _ _ _ _ _ _ _ _ _ _ _ h => h, trivial⟩
    case startK11 => exact hgo.out
    case eachK11 =>
     refine ⟨?_, ?_, ?_, ?_, ?_, ?_, ?_, ?_, trivial⟩
     ·intro w L f hC hLi hLd hLn hF
      obtain ⟨d8, _⟩ := hF
      have d8 : f 8 = .pointer (some ⟨Z.g, 0, none⟩) := d8
      refine Step2.live rfl ?_
      exact relUpon_value (v := f 8) rfl (hC) (fun _ _ _ => rfl) d8
     ·intro w L f hC hLi hLd hLn hF
      obtain ⟨d9, _⟩ := hF
      have d9 : f 9 = .pointer (some ⟨gf, 0, none⟩) := d9
      refine Step2.live rfl ?_
      have ev : ∀ t, evalOf f (.tmp t) = f t := fun _ => rfl
      have ec : ∀ c, evalOf f (.const c) = c := fun _ => rfl
      have ef : ∀ g, evalOf f (.func g) = .func (.func g) #[] #[] := fun _ => rfl
      refine relUpon_value ?_ hC (fun _ _ _ => rfl) rfl
      go_simp
     ·intro w L f hC hLi hLd hLn hF
      obtain ⟨d43, _⟩ := hF
      have d43 : f 43 = .pointer (some ⟨gf, 1, none⟩) := d43
      refine Step2.live rfl ?_
      have hcell : w.cell? ⟨gf, 1, none⟩ = some vp := hC.cell (hLn 5 (by simp))
      have ev : ∀ t, evalOf f (.tmp t) = f t := fun _ => rfl
      have ec : ∀ c, evalOf f (.const c) = c := fun _ => rfl
      have ef : ∀ g, evalOf f (.func g) = .func (.func g) #[] #[] := fun _ => rfl
      refine relUpon_value ?_ hC (fun _ _ _ => rfl) rfl
      go_simp
     ·intro w L f hC hLi hLd hLn hF
      obtain ⟨d8, _⟩ := hF
      have d8 : f 8 = .pointer (some ⟨Z.g, 0, none⟩) := d8
      refine Step2.live rfl ?_
      exact relUpon_value (v := f 8) rfl (hC) (fun _ _ _ => rfl) d8
     ·intro w L f hC hLi hLd hLn hF
      obtain ⟨d45, _⟩ := hF
      have d45 : f 45 = .pointer (some ⟨Z.g, 0, none⟩) := d45
      refine Step2.live rfl ?_
      have l5 : L 5 = false := hLn 5 (by simp)
      have hp := hC.a hLi
      have ev : ∀ t, evalOf f (.tmp t) = f t := fun _ => rfl
      have ec : ∀ c, evalOf f (.const c) = c := fun _ => rfl
      have ef : ∀ g, evalOf f (.func g) = .func (.func g) #[] #[] := fun _ => rfl
      refine relUpon_call (f := 15) (args := #[.pointer (some ⟨Z.g, 0, none⟩), .string ⟨#[42]⟩]) (w := w) (by go_simp) (take_both hp.1.mv htk.out) ?_
      rintro e w1 ⟨he, h1, hW⟩
      exact ⟨_, he, ⟨fun h => absurd h (by simp [hLn 7 (by simp)]), fun h => absurd h (by simp [l5]), fun h => absurd h (by simp), fun _ _ => ⟨hp.1.call h1, own_pw hp.2 hW hp.1.lt2⟩, fun h => absurd h (by simp [hLn 7 (by simp)])⟩, fun h => absurd rfl h, rfl⟩
     ·intro w L f hC hLi hLd hLn hF
      obtain ⟨d42, d44, d46, _⟩ := hF
      have d42 : f 42 = .pointer (some ⟨Z.g, 0, none⟩) := d42
      have d44 : f 44 = vp := d44
      have d46 : f 46 = .bool tk := d46
      refine Step2.live rfl ?_
      have l4 : L 4 = true := hLd 4 (by decide)
      have hp := hC.b l4 hLi
      have ev : ∀ t, evalOf f (.tmp t) = f t := fun _ => rfl
      have ec : ∀ c, evalOf f (.const c) = c := fun _ => rfl
      have ef : ∀ g, evalOf f (.func g) = .func (.func g) #[] #[] := fun _ => rfl
      refine relUpon_call (f := 16) (args := #[.pointer (some ⟨Z.g, 0, none⟩), vp, .bool tk, .int .i64 6]) (w := w) (by go_simp) (more_any w s1' hp.1.at_ B hp.1.ltB hp.1.szB vp ps hp.2 hps.out hpn.out tk 6) ?_
      rintro e w1 ⟨v', he, hP, hW, hO, hN⟩
      exact ⟨_, he, ⟨fun h => absurd h (by simp [hLn 7 (by simp)]), fun _ => by simp [l4], fun h => absurd h (by simp [l4]), fun _ h => absurd h (by simp), fun h => absurd h (by simp [hLn 7 (by simp)])⟩, fun _ h => absurd rfl h, fun _ _ => MoreAt.of hp.1 hp.2 hP hW hO hN⟩
     ·intro w L f hC hLi hLd hLn hF
      obtain ⟨d9, _⟩ := hF
      have d9 : f 9 = .pointer (some ⟨gf, 0, none⟩) := d9
      refine Step2.live rfl ?_
      have ev : ∀ t, evalOf f (.tmp t) = f t := fun _ => rfl
      have ec : ∀ c, evalOf f (.const c) = c := fun _ => rfl
      have ef : ∀ g, evalOf f (.func g) = .func (.func g) #[] #[] := fun _ => rfl
      refine relUpon_value ?_ hC (fun _ _ _ => rfl) rfl
      go_simp
     ·intro w L f hC hLi hLd hLn hF
      obtain ⟨d48, d47, _⟩ := hF
      have d48 : f 48 = .pointer (some ⟨gf, 1, none⟩) := d48
      refine Step2.live rfl ?_
      have l5 : L 5 = true := hLd 5 (by decide)
      have l4 := hC.o2 l5
      have hm := d47 l5 hLi
      obtain ⟨vA, vn, vc, hsh⟩ := hm.shape
      rw [hsh] at hm
      have hcell := hm.cell
      have hlt := hm.lt
      have hfz := hm.frozen
      have ev : ∀ t, evalOf f (.tmp t) = f t := fun _ => rfl
      have ec : ∀ c, evalOf f (.const c) = c := fun _ => rfl
      have ef : ∀ g, evalOf f (.func g) = .func (.func g) #[] #[] := fun _ => rfl
      refine relUpon_skip (w' := w.setCell ⟨gf, 1, none⟩ (.slice vA vn vc)) ?_ ⟨fun _ => by simp [l5], fun _ => by simp [l4], fun h => absurd h (by simp [l4]), fun _ h => absurd h (by simp [l5]), fun _ => ⟨_, hm.done⟩⟩ (fun _ _ h => absurd rfl h) trivial
      go_simp
    intro x w' hC hV

    obtain ⟨v9, hd⟩ := hC.c rfl
    rw [← hr.out] at hd
    clear hV hC
    simp only [framed]
    obtain ⟨w9, hw9⟩ : ∃ y, y = w' := ⟨_, rfl⟩
    rw [← hw9] at hd ⊢
    clear hw9
    have V9 := Lib.hid hd.1
    have hO9 := Lib.hid hd.2.1
    have hN9 := Lib.hid hd.2.2
    clear hd
    cases h41 : isF C [41] r.2 with
    | true =>
     have hF : Hid (R1 = (r.1, r.2.next)) := Lib.hid (by rw [hRR.out, if_pos h41])
     replace h41 := Lib.hid h41
     go_wp2_with fail
     refine (take_yes V9.out.mv [41] h41.out rfl).mono ?_
     rintro e w10 ⟨rfl, q10, hW10⟩
     have V10 := Lib.hid (V9.out.call q10)
     have hO10 := Lib.hid (own_pw hO9.out hW10 hzB)
     clear q10 hW10
     go_wp2_with fail
     go_meet
     case rel =>
      rw [hF.out]
      exact Lib.hid ⟨_, V10.out, hO10.out, by have := hps.out; simp only; omega, hN9.out⟩
    | false =>
     have hF : Hid (paramsL C f' r.1 (wantF C [44] r.2) = R1) := Lib.hid (by rw [hRR.out, if_neg (by rw [h41]; simp)])
     replace h41 := Lib.hid h41
     go_wp2_with fail
     refine (take_no V9.out.mv [41] h41.out).mono ?_
     rintro e w10 ⟨rfl, q10, hW10⟩
     have V10 := Lib.hid (V9.out.call q10)
     have hO10 := Lib.hid (own_pw hO9.out hW10 hzB)
     clear q10 hW10
     go_wp2_with fail
     refine (want_from V10.out.mv [44] rfl).mono ?_
     rintro e w11 ⟨rfl, q11, hW11⟩
     have V11 := V10.out.call q11
     have hO11 := own_pw hO10.out hW11 hzB
     have hwn := fun h => want_next (C := C) (t := [44]) (s := r.2) h
     have hwi := (Stp.want (C := C) [44] r.2).i1
     have hwe := (Stp.want (C := C) [44] r.2).er
     have h2i := hst2.out.i1
     have hlp := hL.out.len
     have hL2 : Hid (ParL C Z gf B (paramsL C) R1 (fun v => #[.string (strV nm), v, .slice none 0 0, .slice none 0 0]) f' r.1 (wantF C [44] r.2) v9 w3 w11) :=
      Lib.hid ⟨hF.out, fun h => by
       have h1 := hwn h
       have h2 : r.2.e = 0 := by
        by_cases h3 : r.2.e = 0
        ·exact h3
        ·exact absurd h (hwe h3)
       have h4 := hnx.out h2
       have h5 := hff'.out
       have h6 := hfu
       omega, by
       have h6 := hfu.2
       have h7 : r.1.length ≤ ps.length + 1 := hrl
       have h8 : st.i ≤ C.tk.length := hL.out.vf.at_.bounds.2.2.1
       have h9 : C.tk.length ≤ 4096 := V11.at_.bounds.1
       omega, hN9.out, V11, hO11⟩
     have hm1 := Lib.hid (hL.out.vf.mv.left2)
     have hm2 := Lib.hid (V11.mv.left2)
     have hb11 := V11.at_.bounds.2.2.1
     have hless := Lib.hid (left2_less he0.out (Nat.le_trans hb11 b1) (by omega : st.i ≤ (wantF C [44] r.2).i) (fun h => by have := hwn h; omega))
     clear hwn hwi hwe h2i hW11 q11 V11 hO11 hb11
     go_wp2_with fail
     exact ⟨⟨_, _, _, _, hL2⟩, by rw [hm1.out, hm2.out]; exact hless.out⟩
   --END
  case rest =>
   obtain ⟨vp, V1, hO1, hl1, hn1⟩ := hcut.out
   obtain ⟨s5, hs5⟩ : ∃ y, y = R1.2 := ⟨_, rfl⟩
   obtain ⟨s6, hs6⟩ : ∃ y, y = bodyAt C s5 := ⟨_, rfl⟩
   rw [← hs5] at V1
   replace V1 := Lib.hid V1
   replace hO1 := Lib.hid hO1
   replace hn1 := Lib.hid hn1
   replace hs5 := Lib.hid hs5
   clear hcut
   obtain ⟨bi, hbi⟩ : ∃ y, y = isF C [123] s5 := ⟨_, rfl⟩
   obtain ⟨bo, hbo⟩ : ∃ y, y = (openF C s5).1 := ⟨_, rfl⟩
   obtain ⟨so, hso⟩ : ∃ y, y = (openF C s5).2 := ⟨_, rfl⟩
   obtain ⟨sx, hsx⟩ : ∃ y, y = if bi then so else s5 := ⟨_, rfl⟩
   have hopn : Hid (openF C s5 = (bo, so)) := Lib.hid (by rw [hbo, hso])
   have hbody : Hid (s6 = if (bi && bo) = true then so.next else failF C 51 sx) := Lib.hid (by rw [hs6, hsx, hso, hbo, hbi]; rfl)
   have hlen5 := V1.out.at_.bounds.2.2.1
   have hlt5 : Hid (bi = true → so.i < C.tk.length) := Lib.hid (fun h => by
    have h1 := isF_lt (hbi.symm.trans h)
    rw [hso]
    have : (openF C s5).2.i = s5.i := by
     unfold openF
     split
     ·rfl
     ·split
      ·unfold failF; split <;> rfl
      ·rfl
    omega)
   replace hbi := Lib.hid hbi
   replace hsx := Lib.hid hsx
   replace hs6 := Lib.hid hs6
   clear hbo hso hlen5
   go_upto_region 14 with (fail)
   go_cut [58] (fun u58 wd => Hid (u58 = .bool (bi && bo) ∧ VF C Z gf B sx #[.string (strV nm), vp, .slice none 0 0, .slice none 0 0] w3 wd ∧ wd.ownsRow B 59 2 vp R1.1.length (R1.1.flatMap Vr.cells)))
   case first =>
    --BR
    cases hb1 : bi with
    | false =>
     rw [hb1] at hsx hbi
     have hse : Hid (sx = s5) := Lib.hid (by rw [hsx.out]; rfl)
     go_wp2_with fail
     refine (is_from V1.out.mv [123] hbi.out.symm).mono ?_
     rintro e wd ⟨rfl, q, hW⟩
     have V2 := Lib.hid (V1.out.call q)
     have hO2 := Lib.hid (own_pw hO1.out hW hzB)
     clear q hW
     go_wp2_with fail
     go_meet
     case rel => exact Lib.hid ⟨by rw [hb1]; rfl, by rw [hse.out]; exact V2.out, hO2.out⟩
    | true =>
     rw [hb1] at hsx hbi
     have hse : Hid (sx = so) := Lib.hid (by rw [hsx.out]; rfl)
     go_wp2_with fail
     refine (is_from V1.out.mv [123] hbi.out.symm).mono ?_
     rintro e wd ⟨rfl, q, hW⟩
     have V2 := Lib.hid (V1.out.call q)
     have hO2 := Lib.hid (own_pw hO1.out hW hzB)
     clear q hW
     go_wp2_with fail
     refine (open_from V2.out.mv hopn.out).mono ?_
     rintro e wd ⟨rfl, q, hW⟩
     have V3 := Lib.hid (V2.out.call q)
     have hO3 := Lib.hid (own_pw hO2.out hW hzB)
     clear q hW
     go_wp2_with fail
     go_meet
     case rel => exact Lib.hid ⟨by rw [hb1]; rfl, by rw [hse.out]; exact V3.out, hO3.out⟩
    --END
   case rest =>
    obtain ⟨e58, V4, hO4⟩ := hcut.out
    replace V4 := Lib.hid V4
    replace hO4 := Lib.hid hO4
    clear hcut
    subst e58
    clear V1 hO1
    go_upto_if 58 with (fail)
    go_cut [] (fun wd => Hid (VF C Z gf B s6 #[.string (strV nm), vp, .slice none 0 0, .slice none 0 0] w3 wd ∧ wd.ownsRow B 59 2 vp R1.1.length (R1.1.flatMap Vr.cells)))
    case first =>
     --BR
     cases hbb : (bi && bo) with
     | true =>
      have hF : Hid (s6 = so.next) := Lib.hid (by rw [hbody.out, if_pos hbb])
      have hsxo : Hid (sx = so) := Lib.hid (by rw [hsx.out, if_pos (by rw [Bool.and_eq_true] at hbb; exact hbb.1)])
      have hlt := hlt5.out (by rw [Bool.and_eq_true] at hbb; exact hbb.1)
      have V5 := V4.out
      rw [hsxo.out] at V5
      obtain ⟨a0, d0, d1, d2, d3, d4, d5, d6, dfz⟩ := V5.mv.facts
      obtain ⟨b1, b2, b3, b4, b5, b6, b7⟩ := V5.mv.bounds
      have q6 := V5.mv.next hlt
      have V6 := V5.call q6
      have hO6 := Lib.hid (own_pw hO4.out q6.wr hzB)
      replace V6 := Lib.hid V6
      replace hbb := Lib.hid hbb
      clear q6 V5
      go_wp2_with fail
      go_meet
      case rel => exact Lib.hid ⟨by rw [hF.out]; exact V6.out, hO6.out⟩
     | false =>
      have hF : Hid (failF C 51 sx = s6) := Lib.hid (by rw [hbody.out, if_neg (by rw [hbb]; simp)])
      replace hbb := Lib.hid hbb
      go_wp2_with fail
      refine (fail_from V4.out.mv 51 (by decide) hF.out).mono ?_
      rintro e wd ⟨rfl, q, hW⟩
      have V5 := Lib.hid (V4.out.call q)
      have hO5 := Lib.hid (own_pw hO4.out hW hzB)
      clear q hW
      go_wp2_with fail
      go_meet
      case rel => exact Lib.hid ⟨V5.out, hO5.out⟩
     --END
    case rest =>
     obtain ⟨V5, hO5⟩ := hcut.out
     clear hcut V4 hO4
     rename World => wL
     obtain ⟨B2, hB2⟩ : ∃ y, y = wL.heap.size := ⟨_, rfl⟩
     obtain ⟨R2, hR2e⟩ : ∃ y, y = localsL C (C.tk.length + 1) [] s6 := ⟨_, rfl⟩
     have hBB2 : B ≤ B2 := by rw [hB2]; exact V5.szB
     have hzB2 : Z.g < B2 := by omega
     have hgB2 : gf < B2 := by omega
     have hP5 : VrAt wL (Mid B B2) R1.1 vp := by
      have h1 := VrAt.own hO5 (by omega) hn1.out
      exact h1.mono fun x hx hS => ⟨hS, by rw [hB2]; exact hx⟩
     have hlen := V5.at_.fit.len
     have hL1 : Hid (LocL C Z gf B B2 R2 nm R1.1 vp (C.tk.length + 1) [] s6 (.slice none 0 0) w3 wL) :=
      Lib.hid ⟨hR2e.symm, fun _ => ⟨by omega, by simp⟩, by simp, by simp, V5, ⟨rfl, .inl ⟨rfl, rfl⟩⟩, hP5, hBB2, by omega⟩
     replace hB2 := Lib.hid hB2
     replace hR2e := Lib.hid hR2e
     clear hlen hP5 V5 hO5
     go_wp2_with fail
     go_loopw [] (fun wr => ∃ (f : Nat) (ls : List Vr) (st : PS) (vl : Value), Hid (LocL C Z gf B B2 R2 nm R1.1 vp f ls st vl w3 wr)) (fun wr => left2 Z wr)
     case atStart => exact ⟨_, _, _, _, hL1⟩
     clear hL1
     obtain ⟨f, ls, st, vl, hL⟩ := hrel
     rename World => wl
     have hV := Lib.hid hL.out.vf
     obtain ⟨b1, b2, b3, b4, b5, b6, b7⟩ := hL.out.vf.at_.bounds
     obtain ⟨pv, hpv⟩ : ∃ y, y = isF C [118, 97, 114] st := ⟨_, rfl⟩
     obtain ⟨pt, hpt⟩ : ∃ y, y = isF C [112, 116, 114] st := ⟨_, rfl⟩
     replace hpv := Lib.hid hpv.symm
     replace hpt := Lib.hid hpt.symm
     have hexit : Hid (pv = false → pt = false → R2 = (ls, st)) := Lib.hid (fun h1 h2 => by
      rw [← hL.out.eq]
      cases f with
      | zero => rfl
      | succ f => unfold localsL; rw [if_neg (by rw [hpv.out, hpt.out, h1, h2]; simp)])
     have hstep : Hid ((pv || pt) = true → st.e = 0 ∧ st.i < C.tk.length ∧ ∃ f', f = f' + 1 ∧ R2 = localsL C f' (moreV C ls pt 20 st.next).1 (wantF C [59] (moreV C ls pt 20 st.next).2)) := Lib.hid (fun h => by
      have he : st.e = 0 := by
       rw [Bool.or_eq_true] at h
       rcases h with h | h
       ·exact isF_e (hpv.out.trans h)
       ·exact isF_e (hpt.out.trans h)
      have hfu := hL.out.fuel he
      refine ⟨he, ?_, f - 1, by omega, ?_⟩
      ·rw [Bool.or_eq_true] at h
       rcases h with h | h
       ·exact isF_lt (hpv.out.trans h)
       ·exact isF_lt (hpt.out.trans h)
      ·obtain ⟨f', hf⟩ : ∃ f', f = f' + 1 := ⟨f - 1, by omega⟩
       rw [← hL.out.eq, hf]
       conv => lhs; unfold localsL
       rw [if_pos (by rw [hpv.out, hpt.out]; exact h), hpt.out]
       rfl)
     cases hc1 : pv with
     | false =>
      rw [hc1] at hpv hexit hstep
      cases hc2 : pt with
      | false =>
       rw [hc2] at hpt hexit hstep
       have hF2 : Hid (R2 = (ls, st)) := Lib.hid (hexit.out rfl rfl)
       go_wp2_with fail
       refine (is_from hV.out.mv [118, 97, 114] hpv.out).mono ?_
       rintro e wa ⟨rfl, qa, hWa⟩
       have hza0 := Nat.le_trans hL.out.hi hWa.size
       have Va := Lib.hid (hV.out.call qa)
       have Oa := Lib.hid (own_pw hL.out.own hWa hzB2)
       have Pa := Lib.hid (hL.out.par.pw hWa (Mid.not hzB))
       clear qa hWa
       go_wp2_with fail
       refine (is_from Va.out.mv [112, 116, 114] hpt.out).mono ?_
       rintro e wb ⟨rfl, qb, hWb⟩
       have hzb0 := Nat.le_trans hza0 hWb.size
       have Vb := Lib.hid (Va.out.call qb)
       have Ob := Lib.hid (own_pw Oa.out hWb hzB2)
       have Pb := Lib.hid (Pa.out.pw hWb (Mid.not hzB))
       clear qb hWb
       have Lb : Hid (VrAt wb (Ge B2) R2.1 vl) := Lib.hid (by
        rw [hF2.out]
        exact VrAt.own Ob.out (Nat.le_trans hL.out.len (by decide)) hL.out.nms)
       have hzb : Hid (B2 ≤ wb.heap.size) := Lib.hid hzb0
       obtain ⟨s7, hs7⟩ : ∃ y, y = R2.2 := ⟨_, rfl⟩
       have hst7 : st = s7 := by rw [hs7, hF2.out]
       rw [hst7] at Vb
       replace hs7 := Lib.hid hs7
       clear hst7 Ob hF2 hexit hstep Va Oa Pa
       obtain ⟨R3, hR3⟩ : ∃ y, y = stmtsD C 39 s7 := ⟨_, rfl⟩
       have hrd : Hid (Calls Try.prog 20 #[.pointer (some ⟨Z.g, 0, none⟩)] wb (SlPost C Z R3 wb)) := Lib.hid (by
        have h1 := hstp.out.trans (paramsF_stp (C := C) s3)
        rw [hR1e.out, ← hs5.out] at h1
        have f0 : s0.Few := by rw [hs00.out]; exact ⟨by decide, fun _ => by decide⟩
        have f5 : s5.Few := h1.nn f0
        have d5 : s5.deep = 0 := by rw [h1.dp, hs00.out]
        obtain ⟨f6, d6⟩ := bodyAt_ok (C := C) f5
        rw [← hs6.out] at f6 d6
        have h2 := localsL_stp (C := C) (C.tk.length + 1) [] s6
        rw [← hR2e.out, ← hs7.out] at h2
        rw [hR3]
        exact stmts_39 wb s7 Vb.out.at_ (fun h => by
         have e6 : s6.e = 0 := by
          by_cases h3 : s6.e = 0
          ·exact h3
          ·exact absurd h (h2.er h3)
         have := d6 e6
         rw [h2.dp]
         omega) (h2.nn f6))
       have hR3b : Hid (bodyF C = R3) := Lib.hid (by
        unfold bodyF lsF
        rw [hR1.out.symm, ← hs5.out, ← hs6.out, ← hR2e.out, ← hs7.out, ← hR3])
       replace hR3 := Lib.hid hR3
       go_wp2_with fail
       refine hrd.out.mono ?_
       clear hrd
       rintro e wc ⟨vb, rfl, q3, hE3⟩
       have Vc := Vb.out.call q3
       have Pc := Pb.out.pw q3.wr (Mid.not hzB)
       have Lc := Lb.out.pw q3.wr (Nat.not_le_of_lt hzB2)
       obtain ⟨bA, bc, hbs⟩ := hE3.slice_
       rw [hbs] at hE3
       have hE4 := hE3.ge hzb.out
       have c3 := Vc.fact 3 rfl
       obtain ⟨f0, fz⟩ := Vc.facts
       have Vd := Vc.store 3 (.slice bA R3.1.len bc)
       have Pd := Pc.pw (Writes.store wc (M := [some gf]) (p := ⟨gf, 3, none⟩) (by simp) (.slice bA R3.1.len bc)) (Mid.not hgB)
       have Ld := Lc.pw (Writes.store wc (M := [some gf]) (p := ⟨gf, 3, none⟩) (by simp) (.slice bA R3.1.len bc)) (Nat.not_le_of_lt hgB2)
       have Ed := hE4.st hgB2 3 (.slice bA R3.1.len bc)
       obtain ⟨wd, hwd⟩ : ∃ x, x = wc.setCell ⟨gf, 3, none⟩ (.slice bA R3.1.len bc) := ⟨_, rfl⟩
       rw [← hwd] at Vd Pd Ld Ed
       replace Vd := Lib.hid Vd
       replace Pd := Lib.hid Pd
       replace Ld := Lib.hid Ld
       replace Ed := Lib.hid Ed
       rw [hbs]
       clear q3 Vc Pc Lc hE3 hE4
       obtain ⟨s8, hs8⟩ : ∃ y, y = R3.2 := ⟨_, rfl⟩
       rw [← hs8] at Vd
       replace hs8 := Lib.hid hs8
       replace Vd := Lib.hid Vd.out
       obtain ⟨a0, d0, d1, d2, d3, d4, d5, d6, dfz⟩ := Vd.out.mv.facts
       obtain ⟨b1, b2, b3, b4, b5, b6, b7⟩ := Vd.out.mv.bounds
       have hwd2 := Lib.hid hwd
       clear hwd
       go_upto_region 23 with (fail)
       rw [← hwd2.out]
       clear c3 f0 fz
       go_cut [110] (fun u110 wx => Hid (u110 = .bool (decide (s8.e = 0 ∧ s8.i < C.tk.length)) ∧ VF C Z gf B s8 #[.string (strV nm), vp, vl, .slice bA R3.1.len bc] w3 wx ∧ VrAt wx (Mid B B2) R1.1 vp ∧ VrAt wx (Ge B2) R2.1 vl ∧ SlAt wx (Ge B2) R3.1 (.slice bA R3.1.len bc)))
       case first =>
        have hgo2 : Hid (∀ nq, VF C Z gf B s8 #[.string (strV nm), vp, vl, .slice bA R3.1.len bc] w3 (wd.drewN nq) ∧ VrAt (wd.drewN nq) (Mid B B2) R1.1 vp ∧ VrAt (wd.drewN nq) (Ge B2) R2.1 vl ∧ SlAt (wd.drewN nq) (Ge B2) R3.1 (.slice bA R3.1.len bc)) := Lib.hid fun nq => ⟨Vd.out.drew_ nq, Pd.out.keep fun x hx _ => (below_drewN (Below.refl wd.heap.size wd) nq).block x hx, Ld.out.keep fun x hx _ => (below_drewN (Below.refl wd.heap.size wd) nq).block x hx, Ed.out.below (below_drewN (Below.refl wd.heap.size wd) nq)⟩
        by_cases he : s8.e = 0
        ·have he' : ((s8.e : Int) == 0) = true := by simp; omega
         by_cases hi : s8.i < C.tk.length
         ·have hi2 : decide (s8.i < C.tk.length) = true := by simpa using hi
          have hq : Hid (decide (s8.e = 0 ∧ s8.i < C.tk.length) = true) := Lib.hid (by simp [he, hi])
          clear Pd Ld Ed
          go_wp2_with fail
          go_quiet (fail)
          go_wp2_with fail
          go_meet
          case rel => exact Lib.hid ⟨by rw [hq.out], hgo2.out nq⟩
         ·have hi2 : decide (s8.i < C.tk.length) = false := by simpa using hi
          have hq : Hid (decide (s8.e = 0 ∧ s8.i < C.tk.length) = false) := Lib.hid (by simp [hi])
          clear Pd Ld Ed
          go_wp2_with fail
          go_quiet (fail)
          go_wp2_with fail
          go_meet
          case rel => exact Lib.hid ⟨by rw [hq.out], hgo2.out nq⟩
        ·have he' : ((s8.e : Int) == 0) = false := by simp; omega
         have hq : Hid (decide (s8.e = 0 ∧ s8.i < C.tk.length) = false) := Lib.hid (by simp [he])
         clear Pd Ld Ed
         go_wp2_with fail
         go_quiet (fail)
         go_wp2_with fail
         go_meet
         case rel => exact Lib.hid ⟨by rw [hq.out], hgo2.out nq⟩
       case rest =>
        obtain ⟨hu110, Ve, Pe, Le, Ee⟩ := hcut.out
        clear hcut Vd Pd Ld Ed hwd2 a0 d0 d1 d2 d3 d4 d5 d6 dfz
        replace Ve := Lib.hid Ve
        replace Pe := Lib.hid Pe
        replace Le := Lib.hid Le
        replace Ee := Lib.hid Ee
        subst hu110
        obtain ⟨s9, hs9⟩ : ∃ y, y = restF C s8 := ⟨_, rfl⟩
        go_upto_if 110 with (fail)
        go_cut [] (fun wx => Hid (VF C Z gf B s9 #[.string (strV nm), vp, vl, .slice bA R3.1.len bc] w3 wx ∧ VrAt wx (Mid B B2) R1.1 vp ∧ VrAt wx (Ge B2) R2.1 vl ∧ SlAt wx (Ge B2) R3.1 (.slice bA R3.1.len bc)))
        case first =>
         by_cases hq : s8.e = 0 ∧ s8.i < C.tk.length
         ·have hF : Hid (failF C 51 s8 = s9) := Lib.hid (by rw [hs9]; unfold restF; rw [if_pos hq])
          have hq2 : decide (s8.e = 0 ∧ s8.i < C.tk.length) = true := decide_eq_true hq
          replace hs9 := Lib.hid hs9
          replace hq := Lib.hid hq
          go_wp2_with fail
          refine (fail_from Ve.out.mv 51 (by decide) hF.out).mono ?_
          rintro e wq ⟨rfl, q, hW⟩
          have V7 := Lib.hid (Ve.out.call q)
          have P7 := Lib.hid (Pe.out.pw hW (Mid.not hzB))
          have L7 := Lib.hid (Le.out.pw hW (Nat.not_le_of_lt hzB2))
          have E7 := Lib.hid (Ee.out.keep fun x hx hS => hW.block x hx (fun e => by simp at e; subst e; exact Nat.not_le_of_lt hzB2 hS))
          clear q hW
          go_wp2_with fail
          go_meet
          case rel => exact Lib.hid ⟨V7.out, P7.out, L7.out, E7.out⟩
         ·have hF : Hid (s8 = s9) := Lib.hid (by rw [hs9]; unfold restF; rw [if_neg hq])
          have hq2 : decide (s8.e = 0 ∧ s8.i < C.tk.length) = false := decide_eq_false hq
          replace hs9 := Lib.hid hs9
          replace hq := Lib.hid hq
          go_wp2_with fail
          go_meet
          case rel => exact Lib.hid ⟨by rw [← hF.out]; exact Ve.out, Pe.out, Le.out, Ee.out⟩
        case rest =>
         obtain ⟨V7, P7, L7, E7⟩ := hcut.out
         clear hcut Ve Pe Le Ee
         rename World => wq
         replace V7 := Lib.hid V7
         replace P7 := Lib.hid P7
         replace L7 := Lib.hid L7
         replace E7 := Lib.hid E7
         obtain ⟨a0, d0, d1, d2, d3, d4, d5, d6, dfz⟩ := V7.out.mv.facts
         have hrF : Hid (restF C (bodyF C).2 = s9) := Lib.hid (by rw [hR3b.out, ← hs8.out, hs9])
         replace hs9 := Lib.hid hs9
         by_cases he : s9.e = 0
         ·have he2 : ((s9.e : Int) != 0) = false := by simp; omega
          have hFE : Hid (R = (⟨nm, R1.1, R2.1, R3.1⟩, 0, 0)) := Lib.hid (by
           rw [hR2.out]
           unfold funcP
           rw [hrF.out, if_neg (by omega), hhead.out, hR1.out.symm, hR3b.out]
           have e2 : lsF C = R2 := by unfold lsF; rw [hR1.out.symm, ← hs5.out, ← hs6.out, hR2e.out]
           rw [e2])
          have V9 := V7.out
          obtain ⟨y0, y1⟩ := V9.facts
          have x0 := V9.fact 0 rfl
          have x1 := V9.fact 1 rfl
          have x2 := V9.fact 2 rfl
          have x3 := V9.fact 3 rfl
          have hHE := V9.ans hHr3.out (by rw [hZg.out]; exact hgr3)
          obtain ⟨z0, z1, z2, z3, z4, z5⟩ := ans_cells hHE
          have hzr : gr < Z.g := by rw [hZg.out]; exact hgr3
          obtain ⟨pA, pn, pc, hps⟩ : ∃ a b c, vp = .slice a b c := by
           obtain ⟨A, c, e, -⟩ := P7.out
           exact ⟨A, _, c, e⟩
          obtain ⟨lA, ln, lc, hls⟩ : ∃ a b c, vl = .slice a b c := by
           obtain ⟨A, c, e, -⟩ := L7.out
           exact ⟨A, _, c, e⟩
          rw [hps] at x1
          rw [hls] at x2
          have hW9 := put4_writes wq gr (.string (strV nm)) (.slice pA pn pc) (.slice lA ln lc) (.slice bA R3.1.len bc)
          have hH9 := Lib.hid (hHE.put4 (.string (strV nm)) (.slice pA pn pc) (.slice lA ln lc) (.slice bA R3.1.len bc))
          have hgrB : gr < B := Nat.lt_trans hzr hzB
          have hnoM : ¬ Mid B B2 gr := Mid.not hgrB
          have hnoG : ¬ Ge B2 gr := Nat.not_le_of_lt (Nat.lt_of_lt_of_le hgrB hBB2)
          have P9 := P7.out.pw hW9 hnoM
          have L9 := L7.out.pw hW9 hnoG
          have E9 := E7.out.keep fun x hx hS => hW9.block x hx (fun e => by simp at e; subst e; exact hnoG hS)
          have hBl : Hid (w.heap.size ≤ B) := Lib.hid (by have := hB3.out.size; have := hBw.out; omega)
          rw [hps] at P9
          rw [hls] at L9
          have hF9 : Hid (FnAt ((((wq.setCell ⟨gr, 0, none⟩ (.string (strV nm))).setCell ⟨gr, 1, none⟩ (.slice pA pn pc)).setCell ⟨gr, 2, none⟩ (.slice lA ln lc)).setCell ⟨gr, 3, none⟩ (.slice bA R3.1.len bc)) (Ge w.heap.size) ⟨nm, R1.1, R2.1, R3.1⟩ (.slice pA pn pc) (.slice lA ln lc) (.slice bA R3.1.len bc)) := Lib.hid
           ⟨hnl, P9.mono fun x _ hS => Nat.le_trans hBl.out hS.1, L9.mono fun x _ hS => Nat.le_trans (Nat.le_trans hBl.out hBB2) hS, E9.mono fun x _ hS => Nat.le_trans (Nat.le_trans hBl.out hBB2) hS⟩
          have hB9 : Hid (Below w.heap.size w ((((wq.setCell ⟨gr, 0, none⟩ (.string (strV nm))).setCell ⟨gr, 1, none⟩ (.slice pA pn pc)).setCell ⟨gr, 2, none⟩ (.slice lA ln lc)).setCell ⟨gr, 3, none⟩ (.slice bA R3.1.len bc))) := Lib.hid (by
           have h1 := hB3.out.trans (V9.wr.below hB3.out.size (fun k hk => by
            have := V9.lt
            have := hgr.out
            simp at hk
            omega))
           exact h1.trans (hW9.below h1.size (fun k hk => by have := hgr.out; simp at hk; omega)))
          clear V9 hHE hW9 P9 L9 E9 hps hls P7 L7 E7
          go_wp2_with fail
          refine ret_cell3 rfl rfl rfl hH9.out Try.underlying26 Try.sFunc ?_
          rw [hFE.out]
          exact ⟨_, _, _, rfl, hF9.out, hB9.out⟩
         ·have he2 : ((s9.e : Int) != 0) = true := by simp; omega
          have hFE : Hid (R = (Fnc.none, s9.at_, s9.e)) := Lib.hid (by
           rw [hR2.out]
           unfold funcP
           rw [hrF.out, if_pos he])
          clear he P7 L7 E7
          go_wp2_with fail
          obtain ⟨wE, hwE⟩ : ∃ x, x = wq.drew := ⟨_, rfl⟩
          have V9 := V7.out.drew1
          rw [← hwE] at V9
          clear V7
          have hHE := V9.ans hHr3.out (by rw [hZg.out]; exact hgr3)
          have hk := Lib.hid (ans_cells hHE)
          have hzr : gr < Z.g := by rw [hZg.out]; exact hgr3
          obtain ⟨wR, hwR0⟩ : ∃ x, x = (((wE.setCell ⟨gr, 0, none⟩ (.string ⟨#[]⟩)).setCell ⟨gr, 1, none⟩ (.slice none 0 0)).setCell ⟨gr, 2, none⟩ (.slice none 0 0)).setCell ⟨gr, 3, none⟩ (.slice none 0 0) := ⟨_, rfl⟩
          have hwR := Lib.hid hwR0
          obtain ⟨e3, e4, e5⟩ := V9.cells_
          have hRf : Hid (wR.cell? ⟨Z.g, 3, none⟩ = some (.int .i64 s9.e) ∧ wR.cell? ⟨Z.g, 4, none⟩ = some (.int .i64 s9.at_) ∧ Z.g < wR.heap.size) := Lib.hid (by
           rw [hwR0, put4_cell (by simp only; omega), put4_cell (by simp only; omega), put4_size]
           exact ⟨e3, e4, e5⟩)
          have hgo : Hid (RetR Z s9 wE wR false wq.drew) := Lib.hid (by
           rw [← hwE]
           exact ⟨e3, e4, e5, fun _ => rfl, fun h => (by cases h)⟩)
          replace hwE := Lib.hid hwE
          have hHR : Hid (Holds wR gr 26 zero4) := Lib.hid (by rw [hwR0]; exact hHE.put4 _ _ _ _)
          have hBR : Hid (Below w.heap.size w wR) := Lib.hid (by
           have h1 := hB3.out.trans (V9.wr.below hB3.out.size (fun k hk => by
            have := V9.lt
            have := hgr.out
            simp at hk
            omega))
           rw [hwR0]
           exact h1.trans ((put4_writes wE gr _ _ _ _).below h1.size (fun k hk => by have := hgr.out; simp at hk; omega)))
          clear hwR0 e3 e4 e5 V9 hHE a0 d0 d1 d2 d3 d4 d5 d6 dfz
          refine wp_region_tabL ((fun _ _ v => v = .agg #[.string ⟨#[]⟩, .slice none 0 0, .slice none 0 0, .slice none 0 0]) ::
           (fun _ _ v => v = .pointer (some ⟨Z.g, 0, none⟩)) ::
           (fun _ _ v => v = .pointer (some ⟨Z.g, 0, none⟩)) ::
           (fun _ _ v => v = .pointer (some ⟨Z.g, 4, none⟩)) ::
           (fun _ _ v => v = .int .i64 s9.at_) ::
           (fun _ _ v => v = .pointer (some ⟨Z.g, 0, none⟩)) ::
           (fun _ _ v => v = .pointer (some ⟨Z.g, 0, none⟩)) ::
           (fun _ _ v => v = .pointer (some ⟨Z.g, 3, none⟩)) ::
           (fun _ _ v => v = .int .i64 s9.e) ::
           (fun _ _ _ => True) ::
           (fun _ _ v => v = .int .i64 s9.at_) ::
           (fun _ _ v => v = .int .i64 s9.e) :: [])
           (⟨[], 0, []⟩ :: ⟨[(8, none)], 0, []⟩ :: ⟨[(119, some 1)], 0, []⟩ :: ⟨[(120, some 2)], 0, []⟩ :: ⟨[(121, some 3)], 0, []⟩ :: ⟨[(8, none)], 0, []⟩ :: ⟨[(123, some 5)], 0, []⟩ :: ⟨[(124, some 6)], 0, []⟩ :: ⟨[(125, some 7)], 0, []⟩ :: ⟨[(2, none), (118, some 0)], 0, []⟩ :: ⟨[(122, some 4)], 0, []⟩ :: ⟨[(126, some 8)], 0, []⟩ :: [])
           (none :: none :: none :: some 10 :: some 11 :: none :: none :: none :: none :: none :: none :: none :: none :: none :: none :: none :: none :: none :: none :: none :: none :: none :: none :: none :: none :: none :: none :: none :: none :: none :: none :: none :: none :: none :: none :: none :: none :: none :: none :: none :: none :: none :: none :: none :: none :: none :: none :: none :: none :: none :: none :: none :: none :: none :: none :: none :: none :: none :: none :: none :: none :: none :: none :: none :: none :: none :: none :: none :: none :: none :: none :: none :: none :: none :: none :: none :: none :: none :: none :: none :: none :: none :: none :: none :: none :: none :: none :: none :: none :: none :: none :: none :: none :: none :: none :: none :: none :: none :: none :: none :: none :: none :: none :: none :: none :: none :: none :: none :: none :: none :: none :: none :: none :: none :: none :: none :: none :: none :: some 0 :: some 1 :: some 2 :: some 3 :: some 4 :: some 5 :: some 6 :: some 7 :: some 8 :: [])
           (fun L w' => RetR Z s9 wE wR (L 9) w') (fun i w w' => i ≠ 9 → w' = w) ?mixK26 ?okK26 ?tabK26 ?frK26 ?inK26 ?keptK26 ?startK26 ?eachK26 ?finK26
          case mixK26 => kernel_rfl
          case okK26 => kernel_rfl
          case tabK26 => kernel_rfl
          case frK26 => kernel_rfl
          case inK26 => rfl
          case keptK26 => exact ⟨fun _ _ _ _ _ _ _ _ _ _ _ h => h, fun _ _ _ _ _ _ _ _ _ _ _ h => h, fun _ _ _ _ _ _ _ _ _ _ _ h => h, fun _ _ _ _ _ _ _ _ _ _ _ h => h, fun _ _ _ _ _ _ _ _ _ _ _ h => h, fun _ _ _ _ _ _ _ _ _ _ _ h => h, fun _ _ _ _ _ _ _ _ _ _ _ h => h, fun _ _ _ _ _ _ _ _ _ _ _ h => h, fun _ _ _ _ _ _ _ _ _ _ _ h => h, fun _ _ _ _ _ _ _ _ _ _ _ h => h, fun _ _ _ _ _ _ _ _ _ _ _ h => h, fun _ _ _ _ _ _ _ _ _ _ _ h => h, trivial⟩
          case startK26 => exact hgo.out
          case eachK26 =>
           refine ⟨?_, ?_, ?_, ?_, ?_, ?_, ?_, ?_, ?_, ?_, ?_, ?_, trivial⟩
           ·intro w L f hC hLi hLd hLn hF
            refine Step2.live rfl ?_
            have ev : ∀ t, evalOf f (.tmp t) = f t := fun _ => rfl
            have ec : ∀ c, evalOf f (.const c) = c := fun _ => rfl
            refine relUpon_value ?_ (hC) (fun _ => rfl) rfl
            go_simp
           ·intro w L f hC hLi hLd hLn hF
            obtain ⟨d8, _⟩ := hF
            have d8 : f 8 = .pointer (some ⟨Z.g, 0, none⟩) := d8
            refine Step2.live rfl ?_
            exact relUpon_value (v := f 8) rfl (hC) (fun _ => rfl) d8
           ·intro w L f hC hLi hLd hLn hF
            obtain ⟨d119, _⟩ := hF
            have d119 : f 119 = .pointer (some ⟨Z.g, 0, none⟩) := d119
            refine Step2.live rfl ?_
            have c3 := hC.c3
            have c4 := hC.c4
            have clt := hC.lt
            have ev : ∀ t, evalOf f (.tmp t) = f t := fun _ => rfl
            have ec : ∀ c, evalOf f (.const c) = c := fun _ => rfl
            have ef : ∀ g, evalOf f (.func g) = .func (.func g) #[] #[] := fun _ => rfl
            refine relUpon_value ?_ hC (fun _ => rfl) rfl
            go_simp
           ·intro w L f hC hLi hLd hLn hF
            obtain ⟨d120, _⟩ := hF
            have d120 : f 120 = .pointer (some ⟨Z.g, 0, none⟩) := d120
            refine Step2.live rfl ?_
            have c3 := hC.c3
            have c4 := hC.c4
            have clt := hC.lt
            have ev : ∀ t, evalOf f (.tmp t) = f t := fun _ => rfl
            have ec : ∀ c, evalOf f (.const c) = c := fun _ => rfl
            have ef : ∀ g, evalOf f (.func g) = .func (.func g) #[] #[] := fun _ => rfl
            refine relUpon_value ?_ hC (fun _ => rfl) rfl
            go_simp
           ·intro w L f hC hLi hLd hLn hF
            obtain ⟨d121, _⟩ := hF
            have d121 : f 121 = .pointer (some ⟨Z.g, 4, none⟩) := d121
            refine Step2.live rfl ?_
            have c3 := hC.c3
            have c4 := hC.c4
            have clt := hC.lt
            have ev : ∀ t, evalOf f (.tmp t) = f t := fun _ => rfl
            have ec : ∀ c, evalOf f (.const c) = c := fun _ => rfl
            have ef : ∀ g, evalOf f (.func g) = .func (.func g) #[] #[] := fun _ => rfl
            refine relUpon_value ?_ hC (fun _ => rfl) rfl
            go_simp
           ·intro w L f hC hLi hLd hLn hF
            obtain ⟨d8, _⟩ := hF
            have d8 : f 8 = .pointer (some ⟨Z.g, 0, none⟩) := d8
            refine Step2.live rfl ?_
            exact relUpon_value (v := f 8) rfl (hC) (fun _ => rfl) d8
           ·intro w L f hC hLi hLd hLn hF
            obtain ⟨d123, _⟩ := hF
            have d123 : f 123 = .pointer (some ⟨Z.g, 0, none⟩) := d123
            refine Step2.live rfl ?_
            have c3 := hC.c3
            have c4 := hC.c4
            have clt := hC.lt
            have ev : ∀ t, evalOf f (.tmp t) = f t := fun _ => rfl
            have ec : ∀ c, evalOf f (.const c) = c := fun _ => rfl
            have ef : ∀ g, evalOf f (.func g) = .func (.func g) #[] #[] := fun _ => rfl
            refine relUpon_value ?_ hC (fun _ => rfl) rfl
            go_simp
           ·intro w L f hC hLi hLd hLn hF
            obtain ⟨d124, _⟩ := hF
            have d124 : f 124 = .pointer (some ⟨Z.g, 0, none⟩) := d124
            refine Step2.live rfl ?_
            have c3 := hC.c3
            have c4 := hC.c4
            have clt := hC.lt
            have ev : ∀ t, evalOf f (.tmp t) = f t := fun _ => rfl
            have ec : ∀ c, evalOf f (.const c) = c := fun _ => rfl
            have ef : ∀ g, evalOf f (.func g) = .func (.func g) #[] #[] := fun _ => rfl
            refine relUpon_value ?_ hC (fun _ => rfl) rfl
            go_simp
           ·intro w L f hC hLi hLd hLn hF
            obtain ⟨d125, _⟩ := hF
            have d125 : f 125 = .pointer (some ⟨Z.g, 3, none⟩) := d125
            refine Step2.live rfl ?_
            have c3 := hC.c3
            have c4 := hC.c4
            have clt := hC.lt
            have ev : ∀ t, evalOf f (.tmp t) = f t := fun _ => rfl
            have ec : ∀ c, evalOf f (.const c) = c := fun _ => rfl
            have ef : ∀ g, evalOf f (.func g) = .func (.func g) #[] #[] := fun _ => rfl
            refine relUpon_value ?_ hC (fun _ => rfl) rfl
            go_simp
           ·intro w L f hC hLi hLd hLn hF
            obtain ⟨d2, d118, _⟩ := hF
            have d2 : f 2 = .pointer (some ⟨gr, 0, none⟩) := d2
            have d118 : f 118 = .agg #[.string ⟨#[]⟩, .slice none 0 0, .slice none 0 0, .slice none 0 0] := d118
            refine Step2.live rfl ?_
            have hw := hC.a hLi
            rw [hw]
            have k0 := hk.out.1
            have k1 := hk.out.2.1
            have k2 := hk.out.2.2.1
            have k3 := hk.out.2.2.2.1
            have g0 := hk.out.2.2.2.2.1
            have gz := hk.out.2.2.2.2.2
            have ev : ∀ t, evalOf f (.tmp t) = f t := fun _ => rfl
            have ec : ∀ c, evalOf f (.const c) = c := fun _ => rfl
            have ef : ∀ g, evalOf f (.func g) = .func (.func g) #[] #[] := fun _ => rfl
            refine relUpon_skip (w' := wR) ?_ ⟨hRf.out.1, hRf.out.2.1, hRf.out.2.2, fun h => absurd h (by simp), fun _ => rfl⟩ (fun h => absurd rfl h) trivial
            rw [hwR.out]
            go_simp
           ·intro w L f hC hLi hLd hLn hF
            obtain ⟨d122, _⟩ := hF
            have d122 : f 122 = .int .i64 s9.at_ := d122
            refine Step2.live rfl ?_
            exact relUpon_value (v := f 122) rfl (hC) (fun _ => rfl) d122
           ·intro w L f hC hLi hLd hLn hF
            obtain ⟨d126, _⟩ := hF
            have d126 : f 126 = .int .i64 s9.e := d126
            refine Step2.live rfl ?_
            exact relUpon_value (v := f 126) rfl (hC) (fun _ => rfl) d126
          intro x w' hC hV

          have hd := hC.b rfl
          have ea : x 10 = .int .i64 s9.at_ := hV 10 _ rfl rfl
          have eb : x 11 = .int .i64 s9.e := hV 11 _ rfl rfl
          replace ea := Lib.hid ea
          replace eb := Lib.hid eb
          clear hC
          simp only [framed]
          obtain ⟨w9, hw9⟩ : ∃ y, y = w' := ⟨_, rfl⟩
          have hw9' : w9 = wR := hw9.trans hd
          rw [← hw9, hw9']
          clear hw9 hw9' hd
          go_wp2_with fail
          refine ret_cell3 rfl rfl rfl hHR.out Try.underlying26 Try.sFunc ?_
          rw [hFE.out]
          refine ⟨_, _, _, ?_, FnAt.none_ _ _, hBR.out⟩
          show Ending.returned (.tuple #[.agg zero4, x 10, x 11]) = _
          rw [ea.out, eb.out]
          rfl
      | true =>
       rw [hc2] at hpt hexit hstep
       --BR
       obtain ⟨he0, hilt, f', hff, hRn⟩ := hstep.out rfl
       obtain ⟨r, hr⟩ : ∃ y, y = moreV C ls true 20 st.next := ⟨_, rfl⟩
       rw [← hr] at hRn
       replace hr := Lib.hid hr
       replace hRn := Lib.hid hRn
       go_wp2_with fail
       refine (is_from hV.out.mv [118, 97, 114] hpv.out).mono ?_
       rintro e wa ⟨rfl, qa, hWa⟩
       have Va := Lib.hid (hV.out.call qa)
       have Oa := Lib.hid (own_pw hL.out.own hWa hzB2)
       have Pa := Lib.hid (hL.out.par.pw hWa (Mid.not hzB))
       have zq0 := Nat.le_trans hL.out.hi hWa.size
       clear qa hWa
       go_wp2_with fail
       refine (is_from Va.out.mv [112, 116, 114] hpt.out).mono ?_
       rintro e wb ⟨rfl, qb, hWb⟩
       have zq := Nat.le_trans zq0 hWb.size
       have Vq := Lib.hid (Va.out.call qb)
       have Oq := Lib.hid (own_pw Oa.out hWb hzB2)
       have Pq := Lib.hid (Pa.out.pw hWb (Mid.not hzB))
       clear qb hWb
       go_wp2_with fail
       refine (is_from Vq.out.mv [112, 116, 114] hpt.out).mono ?_
       rintro e wy ⟨rfl, qy, hWy⟩
       have zy := Nat.le_trans zq hWy.size
       have Vy := Vq.out.call qy
       have Oy := Lib.hid (own_pw Oq.out hWy hzB2)
       have Py := Lib.hid (Pq.out.pw hWy (Mid.not hzB))
       obtain ⟨a0, d0, d1, d2, d3, d4, d5, d6, dfz⟩ := Vy.mv.facts
       obtain ⟨f0, fz⟩ := Vy.facts
       have c2 := Vy.fact 2 rfl
       have hne : gf ≠ Z.g := Nat.ne_of_gt Vy.lt
       have hne2 : Z.g ≠ gf := Nat.ne_of_lt Vy.lt
       have hqb := Vy.mv.next hilt
       have Vz := Vy.call hqb
       have Oz := Lib.hid (own_pw Oy.out hqb.wr hzB2)
       have Pz := Lib.hid (Py.out.pw hqb.wr (Mid.not hzB))
       obtain ⟨wz, hwz⟩ : ∃ x, x = wy.setCell ⟨Z.g, 1, none⟩ (.int .i64 ((st.i : Int) + 1)) := ⟨_, rfl⟩
       have hsz : B2 ≤ wz.heap.size := by rw [hwz]; exact Nat.le_trans zy hqb.wr.size
       rw [← hwz] at Vz Oz Pz
       replace Vz := Lib.hid Vz
       have hwz2 := Lib.hid hwz
       clear qy hWy hqb hwz
       replace Vy := Lib.hid Vy
       go_wp2_with fail
       rw [← hwz2.out]
       refine (more_any wz st.next Vz.out.at_ B2 hzB2 hsz vl ls Oz.out (by have := hL.out.len; omega) hL.out.nms true 20).mono ?_
       rintro e wm ⟨vm, rfl, Pm, Wm, Om, Nm⟩
       have zm := Nat.le_trans hsz Wm.size
       have Vm := Vz.out.more Oz.out hBB2 Pm Wm
       have Pr := Lib.hid (Pz.out.more hzB Oz.out Wm)
       rw [← hr.out] at Vm Om Nm
       obtain ⟨mA, mc, hms, -, -⟩ := RowS.own (S := fun _ => True) Om (fun _ _ => trivial)
       rw [hms] at Om
       have m2 := Vm.fact 2 rfl
       obtain ⟨m0, mz⟩ := Vm.facts
       have Vs := Vm.store 2 (.slice mA r.1.length mc)
       have hst := Writes.store wm (M := [some gf]) (p := ⟨gf, 2, none⟩) (by simp) (.slice mA r.1.length mc)
       have Os := Lib.hid (own_pw Om hst hgB2)
       have Ps := Lib.hid (Pr.out.pw hst (Mid.not hgB))
       obtain ⟨ws, hws⟩ : ∃ x, x = wm.setCell ⟨gf, 2, none⟩ (.slice mA r.1.length mc) := ⟨_, rfl⟩
       have zs : B2 ≤ ws.heap.size := by rw [hws]; exact Nat.le_trans zm hst.size
       rw [← hws] at Vs Os Ps
       replace Vs := Lib.hid Vs
       have hws2 := Lib.hid hws
       have Nm2 := Lib.hid Nm
       clear hws hst Vm Pm Wm Om a0 d0 d1 d2 d3 d4 d5 d6 dfz f0 fz c2 Nm
       rw [hms]
       go_wp2_with fail
       rw [← hws2.out]
       refine (want_from Vs.out.mv [59] rfl).mono ?_
       rintro e we ⟨rfl, qe, hWe⟩
       have ze := Nat.le_trans zs hWe.size
       have Ve := Vs.out.call qe
       have Oe := own_pw Os.out hWe hzB2
       have Pe := Ps.out.pw hWe (Mid.not hzB)
       have hbe := Ve.at_.bounds.2.2.1
       have hnx := fun h => want_next (C := C) (t := [59]) (s := r.2) h
       have hwi := (Stp.want (C := C) [59] r.2).i1
       have hwe := (Stp.want (C := C) [59] r.2).er
       have hmi : st.next.i ≤ r.2.i := by rw [hr.out]; exact (moreV_stp (C := C) _ _ _ _).i1
       have hmn : r.2.e = 0 → st.next.i + 1 ≤ r.2.i ∧ r.1.length = ls.length + 1 := fun h => by rw [hr.out] at h ⊢; exact moreV_next h
       have hml : r.1.length ≤ ls.length + 1 := by rw [hr.out]; exact moreV_len
       have hni : st.next.i = st.i + 1 := rfl
       have hfu := hL.out.fuel he0
       have hL2 : Hid (LocL C Z gf B B2 R2 nm R1.1 vp f' r.1 (wantF C [59] r.2) (.slice mA r.1.length mc) w3 we) :=
        Lib.hid ⟨hRn.out.symm, fun h => by
         have h1 := hnx h
         have h2 : r.2.e = 0 := by
          by_cases h3 : r.2.e = 0
          ·exact h3
          ·exact absurd h (hwe h3)
         have h4 := hmn h2
         omega, by have h8 := hL.out.vf.at_.bounds.2.2.1; have h9 := Ve.at_.bounds.1; omega, Nm2.out, Ve, Oe, Pe, hBB2, ze⟩
       have hm1 := Lib.hid (hL.out.vf.mv.left2)
       have hm2 := Lib.hid (Ve.mv.left2)
       have hless := Lib.hid (left2_less he0 (Nat.le_trans hbe b1) (by omega : st.i ≤ (wantF C [59] r.2).i) (fun (h : (wantF C [59] r.2).e = 0) => by have := hnx h; omega))
       clear hnx hwi hwe hmi hmn hml hni hWe qe Ve Oe Pe hbe hfu
       go_wp2_with fail
       exact ⟨⟨_, _, _, _, hL2⟩, by rw [hm1.out, hm2.out]; exact hless.out⟩
       --END
     | true =>
      rw [hc1] at hpv hexit hstep
      --BR
      obtain ⟨he0, hilt, f', hff, hRn⟩ := hstep.out rfl
      obtain ⟨r, hr⟩ : ∃ y, y = moreV C ls pt 20 st.next := ⟨_, rfl⟩
      rw [← hr] at hRn
      replace hr := Lib.hid hr
      replace hRn := Lib.hid hRn
      go_wp2_with fail
      refine (is_from hV.out.mv [118, 97, 114] hpv.out).mono ?_
      rintro e wa ⟨rfl, qa, hWa⟩
      have zq := Nat.le_trans hL.out.hi hWa.size
      have Vq := Lib.hid (hV.out.call qa)
      have Oq := Lib.hid (own_pw hL.out.own hWa hzB2)
      have Pq := Lib.hid (hL.out.par.pw hWa (Mid.not hzB))
      clear qa hWa
      go_wp2_with fail
      refine (is_from Vq.out.mv [112, 116, 114] hpt.out).mono ?_
      rintro e wy ⟨rfl, qy, hWy⟩
      have zy := Nat.le_trans zq hWy.size
      have Vy := Vq.out.call qy
      have Oy := Lib.hid (own_pw Oq.out hWy hzB2)
      have Py := Lib.hid (Pq.out.pw hWy (Mid.not hzB))
      obtain ⟨a0, d0, d1, d2, d3, d4, d5, d6, dfz⟩ := Vy.mv.facts
      obtain ⟨f0, fz⟩ := Vy.facts
      have c2 := Vy.fact 2 rfl
      have hne : gf ≠ Z.g := Nat.ne_of_gt Vy.lt
      have hne2 : Z.g ≠ gf := Nat.ne_of_lt Vy.lt
      have hqb := Vy.mv.next hilt
      have Vz := Vy.call hqb
      have Oz := Lib.hid (own_pw Oy.out hqb.wr hzB2)
      have Pz := Lib.hid (Py.out.pw hqb.wr (Mid.not hzB))
      obtain ⟨wz, hwz⟩ : ∃ x, x = wy.setCell ⟨Z.g, 1, none⟩ (.int .i64 ((st.i : Int) + 1)) := ⟨_, rfl⟩
      have hsz : B2 ≤ wz.heap.size := by rw [hwz]; exact Nat.le_trans zy hqb.wr.size
      rw [← hwz] at Vz Oz Pz
      replace Vz := Lib.hid Vz
      have hwz2 := Lib.hid hwz
      clear qy hWy hqb hwz
      replace Vy := Lib.hid Vy
      go_wp2_with fail
      rw [← hwz2.out]
      refine (more_any wz st.next Vz.out.at_ B2 hzB2 hsz vl ls Oz.out (by have := hL.out.len; omega) hL.out.nms pt 20).mono ?_
      rintro e wm ⟨vm, rfl, Pm, Wm, Om, Nm⟩
      have zm := Nat.le_trans hsz Wm.size
      have Vm := Vz.out.more Oz.out hBB2 Pm Wm
      have Pr := Lib.hid (Pz.out.more hzB Oz.out Wm)
      rw [← hr.out] at Vm Om Nm
      obtain ⟨mA, mc, hms, -, -⟩ := RowS.own (S := fun _ => True) Om (fun _ _ => trivial)
      rw [hms] at Om
      have m2 := Vm.fact 2 rfl
      obtain ⟨m0, mz⟩ := Vm.facts
      have Vs := Vm.store 2 (.slice mA r.1.length mc)
      have hst := Writes.store wm (M := [some gf]) (p := ⟨gf, 2, none⟩) (by simp) (.slice mA r.1.length mc)
      have Os := Lib.hid (own_pw Om hst hgB2)
      have Ps := Lib.hid (Pr.out.pw hst (Mid.not hgB))
      obtain ⟨ws, hws⟩ : ∃ x, x = wm.setCell ⟨gf, 2, none⟩ (.slice mA r.1.length mc) := ⟨_, rfl⟩
      have zs : B2 ≤ ws.heap.size := by rw [hws]; exact Nat.le_trans zm hst.size
      rw [← hws] at Vs Os Ps
      replace Vs := Lib.hid Vs
      have hws2 := Lib.hid hws
      have Nm2 := Lib.hid Nm
      clear hws hst Vm Pm Wm Om a0 d0 d1 d2 d3 d4 d5 d6 dfz f0 fz c2 Nm
      rw [hms]
      go_wp2_with fail
      rw [← hws2.out]
      refine (want_from Vs.out.mv [59] rfl).mono ?_
      rintro e we ⟨rfl, qe, hWe⟩
      have ze := Nat.le_trans zs hWe.size
      have Ve := Vs.out.call qe
      have Oe := own_pw Os.out hWe hzB2
      have Pe := Ps.out.pw hWe (Mid.not hzB)
      have hbe := Ve.at_.bounds.2.2.1
      have hnx := fun h => want_next (C := C) (t := [59]) (s := r.2) h
      have hwi := (Stp.want (C := C) [59] r.2).i1
      have hwe := (Stp.want (C := C) [59] r.2).er
      have hmi : st.next.i ≤ r.2.i := by rw [hr.out]; exact (moreV_stp (C := C) _ _ _ _).i1
      have hmn : r.2.e = 0 → st.next.i + 1 ≤ r.2.i ∧ r.1.length = ls.length + 1 := fun h => by rw [hr.out] at h ⊢; exact moreV_next h
      have hml : r.1.length ≤ ls.length + 1 := by rw [hr.out]; exact moreV_len
      have hni : st.next.i = st.i + 1 := rfl
      have hfu := hL.out.fuel he0
      have hL2 : Hid (LocL C Z gf B B2 R2 nm R1.1 vp f' r.1 (wantF C [59] r.2) (.slice mA r.1.length mc) w3 we) :=
       Lib.hid ⟨hRn.out.symm, fun h => by
        have h1 := hnx h
        have h2 : r.2.e = 0 := by
         by_cases h3 : r.2.e = 0
         ·exact h3
         ·exact absurd h (hwe h3)
        have h4 := hmn h2
        omega, by have h8 := hL.out.vf.at_.bounds.2.2.1; have h9 := Ve.at_.bounds.1; omega, Nm2.out, Ve, Oe, Pe, hBB2, ze⟩
      have hm1 := Lib.hid (hL.out.vf.mv.left2)
      have hm2 := Lib.hid (Ve.mv.left2)
      have hless := Lib.hid (left2_less he0 (Nat.le_trans hbe b1) (by omega : st.i ≤ (wantF C [59] r.2).i) (fun (h : (wantF C [59] r.2).e = 0) => by have := hnx h; omega))
      clear hnx hwi hwe hmi hmn hml hni hWe qe Ve Oe Pe hbe hfu
      go_wp2_with fail
      exact ⟨⟨_, _, _, _, hL2⟩, by rw [hm1.out, hm2.out]; exact hless.out⟩
      --END

end Go.Proofs.Ytpndglghpojjkaa
