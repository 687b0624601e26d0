/-
  3 texts of the proof, in one file: no condition.
-/
import Derived.Deep.DeepCutAuto
import Derived.Test.YtpndglghpojjkaaGreatPea2
set_option maxRecDepth 1000000
set_option maxHeartbeats 8000000
namespace Go.Proofs.YtpndglghpojjkaaGreat
open Go.RowKit Go.Deep
theorem Reads6.vac (f:Nat) (F:PC→PS→Ex×PS):Reads6 f 41 F:=fun C L w s hP hm=>absurd hP.ok.deep (by omega)
theorem exprs_all:∀d,d≤40→Reads6 191 (40-d) (fun C=>unD C d)∧Reads6 166 (40-d) (fun C=>prodD C d)∧Reads6 130 (40-d) (fun C=>sumD C d)
 |0,_=>by
  have h1:Reads6 191 40 (fun C=>unD C 0):=un_step 40 (fun _ s=>(.nil,s)) (fun _ s=>(.nil,s)) (Reads6.vac _ _) (Reads6.vac _ _) (fun _ s=>Stp.refl s) (fun _ s=>Stp.refl s);have h2:Reads6 166 40 (fun C=>prodD C 0):=prod_step 40 (fun C=>unD C 0) h1 (fun C s=>unD_stp 0 s);exact⟨h1,h2,sum_step 40 (fun C=>prodD C 0) h2 (fun C s=>prodD_stp 0 s)⟩
 |d+1,hd=>by
  obtain⟨i1,i2,i3⟩:=exprs_all d (by omega)
  have e:40-d=40-(d+1)+1:=by omega
  rw[e]at i1 i2 i3;have h1:Reads6 191 (40-(d+1)) (fun C=>unD C (d+1)):=un_step _ (fun C=>sumD C d) (fun C=>unD C d) i3 i1 (fun C s=>sumD_stp d s) (fun C s=>unD_stp d s);have h2:Reads6 166 (40-(d+1)) (fun C=>prodD C (d+1)):=prod_step _ (fun C=>unD C (d+1)) h1 (fun C s=>unD_stp (d+1) s);exact⟨h1,h2,sum_step _ (fun C=>prodD C (d+1)) h2 (fun C s=>prodD_stp (d+1) s)⟩
def CnAt (w:World) (S:Nat→Prop):Cn→Value→Prop
 | .nil,v=>v= .pointer none
 | .mk k a b p q nm,v=>∃g va vb vp vq,v= .pointer (some ⟨g,0,none⟩)∧S g∧nm.length≤4096∧k≤9∧
   Holds w g 213 #[.int .i64 k,va,vb,vp,vq,.string (strV nm)]∧ExAt w S a va∧ExAt w S b vb∧CnAt w S p vp∧CnAt w S q vq
theorem CnAt.keep {w w':World} {S:Nat→Prop} (hk:∀x,x<w.heap.size→S x→w'.heap[x]? =w.heap[x]?):∀{e:Cn} {v:Value},CnAt w S e v→CnAt w' S e v
 | .nil,_,h=>h
 | .mk _ _ _ _ _ _,_,h=>by obtain⟨g,va,vb,vp,vq,e,hS,hn,hk9,hH,ha,hb,hp,hq⟩:=h;exact⟨g,va,vb,vp,vq,e,hS,hn,hk9,(hk g hH.lt hS).trans hH,ha.keep hk,hb.keep hk,hp.keep hk,hq.keep hk⟩
theorem CnAt.mono {w:World} {S S':Nat→Prop} (hk:∀x,x<w.heap.size→S x→S' x):∀{e:Cn} {v:Value},CnAt w S e v→CnAt w S' e v
 | .nil,_,h=>h
 | .mk _ _ _ _ _ _,_,h=>by obtain⟨g,va,vb,vp,vq,e,hS,hn,hk9,hH,ha,hb,hp,hq⟩:=h;exact⟨g,va,vb,vp,vq,e,hk g hH.lt hS,hn,hk9,hH,ha.mono hk,hb.mono hk,hp.mono hk,hq.mono hk⟩
theorem CnAt.below {w w':World} {S:Nat→Prop} {e:Cn} {v:Value} (h:CnAt w S e v) (hb:Below w.heap.size w w'):CnAt w' S e v:=h.keep fun x hx _=>hb.block x hx
theorem CnAt.writes {w w':World} {M:List (Option Nat)} {S:Nat→Prop} {e:Cn} {v:Value} (h:CnAt w S e v) (hW:Writes M w w') (hM:∀k,some k∈M→¬S k):CnAt w' S e v:=h.keep fun x hx hS=>hW.block x hx fun e=>hM x e hS
theorem CnAt.ge {w:World} {B B':Nat} {e:Cn} {v:Value} (h:CnAt w (Ge B') e v) (hB:B≤B'):CnAt w (Ge B) e v:=h.mono fun _ _ h=>Nat.le_trans hB h
theorem CnAt.pw {w w':World} {B g:Nat} {e:Cn} {v:Value} (h:CnAt w (Ge B) e v) (hW:Writes [some g] w w') (hg:g<B):CnAt w' (Ge B) e v:=
 h.writes hW fun k hk hge=>by simp at hk;subst hk;exact absurd hge (Nat.not_le_of_lt hg)
theorem CnAt.nil_ (w:World) (S:Nat→Prop):CnAt w S .nil (.pointer none):=rfl
theorem CnAt.new {w:World} {B g:Nat} {a b:Ex} {p q:Cn} {va vb vp vq:Value} (k:Nat) (nm:List UInt8) (hk:k≤9) (hn:nm.length≤4096) (hB:B≤w.heap.size) (hg:g=w.heap.size) (ha:ExAt w (Ge B) a va) (hb:ExAt w (Ge B) b vb) (hp:CnAt w (Ge B) p vp) (hq:CnAt w (Ge B) q vq):
  CnAt (w.alloc (.cells #[.int .i64 k,va,vb,vp,vq,.string (strV nm)] 213)) (Ge B) (.mk k a b p q nm) (.pointer (some ⟨g,0,none⟩)):=by
 subst hg;have hb':=below_new w (.cells #[.int .i64 k,va,vb,vp,vq,.string (strV nm)] 213);exact⟨_,va,vb,vp,vq,rfl,hB,hn,hk,Holds.new _ _ _,ha.below hb',hb.below hb',hp.below hb',hq.below hb'⟩
def CnPost (C:PC) (L:PL) (r:Cn×PS) (w:World) (e:Ending) (w':World):Prop:=∃p,e= .returned (.pointer p)∧Moved C L r.2 w w'∧CnAt w' (Ge w.heap.size) r.1 (.pointer p)
theorem CnPost.of {C:PC} {L:PL} {r:Cn×PS} {w w':World} {p:Option Addr} (h:Moved C L r.2 w w') (h2:CnAt w' (Ge w.heap.size) r.1 (.pointer p)):CnPost C L r w (.returned (.pointer p)) w':=⟨p,rfl,h,h2⟩
def ReadsC (f:Nat) (m:Nat) (F:PC→PS→Cn×PS):Prop:=∀(C:PC) (L:PL) (w:World) (s:PS),PAt C L s w→m≤s.deep→Calls Tryz.prog f #[.pointer (some ⟨L.g,0,none⟩)] w (CnPost C L (F C s) w)
theorem ReadsC.vac (f:Nat) (F:PC→PS→Cn×PS):ReadsC f 41 F:=fun C L w s hP hm=>absurd hP.ok.deep (by omega)
theorem ReadsC.from_ {f m:Nat} {F:PC→PS→Cn×PS} (h:ReadsC f m F) {C:PC} {L:PL} {s:PS} {w0 w:World} {r:Cn×PS} (hM:Moved C L s w0 w) (hm:m≤s.deep) (hr:F C s=r):
  Calls Tryz.prog f #[.pointer (some ⟨L.g,0,none⟩)] w fun e w'=>∃p,e= .returned (.pointer p)∧Moved C L r.2 w0 w'∧CnAt w' (Ge w0.heap.size) r.1 (.pointer p)∧Writes [some L.g] w w':=by
 subst hr;refine(h C L w s hM.at_ hm).mono ?_;rintro e w' ⟨p,rfl,h1,h2⟩;exact⟨p,rfl,hM.trans h1,h2.ge hM.wr.size,h1.wr⟩
structure JoinL (C:PC) (L:PL) (t:List UInt8) (k:Nat) (part:PS→Cn×PS) (m:Nat) (R:Cn×PS) (f:Nat) (a:Cn) (s:PS) (p:Option Addr) (w0 w:World):Prop where
 eq:joinL C t k part f a s=R
 fuel:C.tk.length<s.i+f
 dp:m≤s.deep
 mv:Moved C L s w0 w
 tree:CnAt w (Ge w0.heap.size) a (.pointer p)
section
variable {C:PC} {L:PL} {t:List UInt8} {k:Nat} {part:PS→Cn×PS} {m:Nat} {R:Cn×PS} {f:Nat} {a:Cn} {s:PS} {p:Option Addr} {w0 w:World}
theorem JoinL.stop (h:JoinL C L t k part m R f a s p w0 w) (hs:isF C t s=false):R=(a,s):=by
 rw[←h.eq]
 cases f with
 |zero=>rfl
 |succ f=>unfold joinL;rw[hs];rfl
theorem JoinL.go_ (h:JoinL C L t k part m R f a s p w0 w) (hi:isF C t s=true) (hp:∀s,Stp C s (part s).2):
  ∃f',joinL C t k part f' (.mk k .nil .nil a (part s.next).1 []) (part s.next).2=R∧C.tk.length<(part s.next).2.i+f'∧m≤(part s.next).2.deep∧s.i+1≤(part s.next).2.i:=by
 have hi2:=(hp s.next).i1;have hd:=(hp s.next).dp;have hf:=h.fuel;have hdp:=h.dp;have hlt:=isF_lt hi;simp only[PS.next]at hi2 hd
 cases f with
 |zero=>omega
 |succ f=>
  refine⟨f,?_,by simp only[PS.next];omega,by simp only[PS.next];omega,hi2⟩;rw[←h.eq]
  conv=>rhs;unfold joinL
  rw[hi];rfl
end
theorem and_step (m:Nat) (part:PC→PS→Cn×PS) (hpart:ReadsC 192 m part) (hs:∀C s,Stp C s (part C s).2):
  ReadsC 167 m (fun C s=>joinL C [38,38] 6 (part C) (C.tk.length+1) (part C s).1 (part C s).2):=by
 intro C L w s hP hm;have hM:=zi (Moved.refl hP);have hlt0:=hP.lt;have hlen:=hP.fit.len;show Calls _ _ _ _ (CnPost C L (joinL C [38,38] 6 (part C) (C.tk.length+1) (part C s).1 (part C s).2) w);obtain⟨R,hR⟩:∃x,x=joinL C [38,38] 6 (part C) (C.tk.length+1) (part C s).1 (part C s).2:=⟨_,rfl⟩;rw[←hR];obtain⟨r,hr⟩:∃x,x=part C s:=⟨_,rfl⟩;have hd:=(hs C s).dp;rw[←hr]at hd;have hR2:Hid (joinL C [38,38] 6 (part C) (C.tk.length+1) r.1 r.2=R):=zi (by subst hr;exact hR.symm)
 have hdm:m≤r.2.deep:=by omega
 replace hr:=zi hr;clear hP hR hd;go_enter Tryz.func167,Tryz.ntmps167;go_wp2_with fail;refine(hpart.from_ hM.out hm hr.out.symm).mono ?_;rintro e w1 ⟨p,rfl,h1,hE,-⟩;have hL1:Hid (JoinL C L [38,38] 6 (part C) m R (C.tk.length+1) r.1 r.2 p w w1):=zi ⟨hR2.out,by omega,hdm,h1,hE⟩;clear h1 hE hR2 hr hdm;go_wp2_with fail;go_loopw [3] (fun av wr=>∃(f:Nat) (a:Cn) (t:PS) (p:Option Addr),av= .pointer p∧Hid (JoinL C L [38,38] 6 (part C) m R f a t p w wr)) (fun _ wr=>left6 L wr)
 case atStart=>exact⟨_,_,_,p,rfl,hL1⟩
 clear hL1;obtain⟨f,a,t,q,rfl,hL⟩:=hrel
 cases hi:isF C [38,38] t with
 |false=>
  have hF:=zi (hL.out.stop hi);replace hi:=zi hi;go_wp2_with fail;refine(take_no hL.out.mv [38,38] hi.out).mono ?_;rintro e v0 ⟨rfl,hV0,hW0⟩;have hT0:=zi (hL.out.tree.pw hW0 hlt0);clear hW0;replace hV0:=zi hV0;go_wp2_with fail;go_ret;rw[hF.out];exact CnPost.of hV0.out hT0.out
 |true=>
  have hlt:=isF_lt hi;obtain⟨f',hE1,hE2,hE3,hE4⟩:=hL.out.go_ hi (hs C);obtain⟨r,hr⟩:∃x,x=part C t.next:=⟨_,rfl⟩;rw[←hr]at hE1 hE2 hE3 hE4;replace hr:=zi hr;replace hE1:=zi hE1;replace hi:=zi hi;go_wp2_with fail;refine(take_yes hL.out.mv [38,38] hi.out rfl).mono ?_;rintro e v0 ⟨rfl,hV0,hW0⟩;have hT0:=zi (hL.out.tree.pw hW0 hlt0);clear hW0;replace hV0:=zi hV0;go_wp2_with fail;refine(hpart.from_ hV0.out (by have:=hL.out.dp;simpa[PS.next]using this) hr.out.symm).mono ?_;rintro e w2 ⟨p2,rfl,h2,hE,hW2⟩;have hTa:=hT0.out.pw hW2 hlt0
  have hL2:Hid (JoinL C L [38,38] 6 (part C) m R f' (.mk 6 .nil .nil a r.1 []) r.2 (some ⟨w2.heap.size,0,none⟩) w (w2.alloc (.cells #[.int .i64 6,.pointer none,.pointer none,.pointer q,.pointer p2,.string ⟨#[]⟩] 213))):=
   zi ⟨hE1.out,hE2,hE3,h2.below (below_new _ _),CnAt.new 6 [] (by decide) (by simp) h2.wr.size rfl (ExAt.nil_ _ _) (ExAt.nil_ _ _) hTa hE⟩
  have hm1:=hL.out.mv.left;have hm2:=hL2.out.mv.left;have hb2:=hL2.out.mv.bounds.2.2.1;clear hTa h2 hE hW2 hE1;go_wp2_with fail;exact⟨⟨_,_,_,_,rfl,hL2⟩,by rw[hm1,hm2];omega⟩
theorem cond_step (m:Nat) (part:PC→PS→Cn×PS) (hpart:ReadsC 167 m part) (hs:∀C s,Stp C s (part C s).2):
  ReadsC 131 m (fun C s=>joinL C [124,124] 7 (part C) (C.tk.length+1) (part C s).1 (part C s).2):=by
 intro C L w s hP hm;have hM:=zi (Moved.refl hP);have hlt0:=hP.lt;have hlen:=hP.fit.len;show Calls _ _ _ _ (CnPost C L (joinL C [124,124] 7 (part C) (C.tk.length+1) (part C s).1 (part C s).2) w);obtain⟨R,hR⟩:∃x,x=joinL C [124,124] 7 (part C) (C.tk.length+1) (part C s).1 (part C s).2:=⟨_,rfl⟩;rw[←hR];obtain⟨r,hr⟩:∃x,x=part C s:=⟨_,rfl⟩;have hd:=(hs C s).dp;rw[←hr]at hd;have hR2:Hid (joinL C [124,124] 7 (part C) (C.tk.length+1) r.1 r.2=R):=zi (by subst hr;exact hR.symm)
 have hdm:m≤r.2.deep:=by omega
 replace hr:=zi hr;clear hP hR hd;go_enter Tryz.func131,Tryz.ntmps131;go_wp2_with fail;refine(hpart.from_ hM.out hm hr.out.symm).mono ?_;rintro e w1 ⟨p,rfl,h1,hE,-⟩;have hL1:Hid (JoinL C L [124,124] 7 (part C) m R (C.tk.length+1) r.1 r.2 p w w1):=zi ⟨hR2.out,by omega,hdm,h1,hE⟩;clear h1 hE hR2 hr hdm;go_wp2_with fail;go_loopw [3] (fun av wr=>∃(f:Nat) (a:Cn) (t:PS) (p:Option Addr),av= .pointer p∧Hid (JoinL C L [124,124] 7 (part C) m R f a t p w wr)) (fun _ wr=>left6 L wr)
 case atStart=>exact⟨_,_,_,p,rfl,hL1⟩
 clear hL1;obtain⟨f,a,t,q,rfl,hL⟩:=hrel
 cases hi:isF C [124,124] t with
 |false=>
  have hF:=zi (hL.out.stop hi);replace hi:=zi hi;go_wp2_with fail;refine(take_no hL.out.mv [124,124] hi.out).mono ?_;rintro e v0 ⟨rfl,hV0,hW0⟩;have hT0:=zi (hL.out.tree.pw hW0 hlt0);clear hW0;replace hV0:=zi hV0;go_wp2_with fail;go_ret;rw[hF.out];exact CnPost.of hV0.out hT0.out
 |true=>
  have hlt:=isF_lt hi;obtain⟨f',hE1,hE2,hE3,hE4⟩:=hL.out.go_ hi (hs C);obtain⟨r,hr⟩:∃x,x=part C t.next:=⟨_,rfl⟩;rw[←hr]at hE1 hE2 hE3 hE4;replace hr:=zi hr;replace hE1:=zi hE1;replace hi:=zi hi;go_wp2_with fail;refine(take_yes hL.out.mv [124,124] hi.out rfl).mono ?_;rintro e v0 ⟨rfl,hV0,hW0⟩;have hT0:=zi (hL.out.tree.pw hW0 hlt0);clear hW0;replace hV0:=zi hV0;go_wp2_with fail;refine(hpart.from_ hV0.out (by have:=hL.out.dp;simpa[PS.next]using this) hr.out.symm).mono ?_;rintro e w2 ⟨p2,rfl,h2,hE,hW2⟩;have hTa:=hT0.out.pw hW2 hlt0
  have hL2:Hid (JoinL C L [124,124] 7 (part C) m R f' (.mk 7 .nil .nil a r.1 []) r.2 (some ⟨w2.heap.size,0,none⟩) w (w2.alloc (.cells #[.int .i64 7,.pointer none,.pointer none,.pointer q,.pointer p2,.string ⟨#[]⟩] 213))):=
   zi ⟨hE1.out,hE2,hE3,h2.below (below_new _ _),CnAt.new 7 [] (by decide) (by simp) h2.wr.size rfl (ExAt.nil_ _ _) (ExAt.nil_ _ _) hTa hE⟩
  have hm1:=hL.out.mv.left;have hm2:=hL2.out.mv.left;have hb2:=hL2.out.mv.bounds.2.2.1;clear hTa h2 hE hW2 hE1;go_wp2_with fail;exact⟨⟨_,_,_,_,rfl,hL2⟩,by rw[hm1,hm2];omega⟩
end Go.Proofs.YtpndglghpojjkaaGreat
namespace Go.Proofs.YtpndglghpojjkaaGreat
open Go.RowKit
def DepL (ops:Array Oper) (V:Nat→(Nat→Bool)→World→Value→Prop) (L:Nat→Bool) (tmps:Array Value) (w:World):List Nat→Prop
 | []=>True
 |j::r=>(match (ops[j]?).bind (·.dst)with|some d=>V j L w (tmps.getD d undef)|none=>True)∧DepL ops V L tmps w r
def reach (ops:Array Oper):Nat→Nat→Nat→Bool
 |0,_,_=>false
 |n+1,j,i=>match ops[j]? with
  |some oj=>(depsOf oj).any fun d=>d==i||reach ops n d i
  |none=>false
theorem reach_closed {ops:Array Oper} {L:Nat→Bool} (hc:∀(k:Nat) ok,ops[k]? =some ok→L k=true→∀j∈depsOf ok,L j=true):∀n j i,reach ops n j i=true→L j=true→L i=true:=by
 intro n
 induction n with
 |zero=>intro j i h;cases h
 |succ n ih=>
  intro j i h hj;unfold reach at h
  cases ho:ops[j]? with
  |none=>rw[ho]at h;cases h
  |some oj=>
   rw[ho]at h;simp only[List.any_eq_true,Bool.or_eq_true,beq_iff_eq]at h;obtain⟨d,hd,h⟩:=h;have hLd:=hc j oj ho hj d hd;rcases h with rfl|h
   ·exact hLd
   ·exact ih d i h hLd
def tabOkL (ops:Array Oper) (R:List Reads):Bool:=
 (List.range ops.size).all fun i=>match ops[i]? with
  |none=>true
  |some o=>
   ((R.drop i).headD ⟨[],0,[]⟩).reads.all (fun p=>match p.2 with
    |some j=>(match ops[j]? with|some oj=>oj.dst==some p.1|none=>false)&&(depsOf o).contains j
    |none=>(List.range ops.size).all fun j=>match ops[j]? with|some oj=>oj.dst !=some p.1|| (depsOf oj).contains i|none=>true)&&
   (match o.guard with
    |none=>true
    |some (j,_)=>match ops[j]? with|some oj=>oj.dst==some ((R.drop i).headD ⟨[],0,[]⟩).guard|none=>false)&&
   ((R.drop i).headD ⟨[],0,[]⟩).next.all (fun j=>reach ops ops.size j i)
def StepL1 (P:Program) (ops:Array Oper) (V:Nat→(Nat→Bool)→World→Value→Prop) (C:(Nat→Bool)→World→Prop) (G:Nat→World→World→Prop) (i:Nat) (o:Oper) (a:Act):Prop:=
 ∀w L,C L w→L i=false→(∀j∈depsOf o,L j=true)→(∀j,reach ops ops.size j i=true→L j=false)→DepL ops V L a.tmps w (depsOf o)→
  if Region.wanted o (yielded ops a.tmps)then relUpon P (fun v w'=>C (fun k=>k==i||L k) w'∧G i w w'∧V i (fun k=>k==i||L k) w' v) ((execOp a.eval o).run P w)
  else V i (fun k=>k==i||L k) w undef∧C (fun k=>k==i||L k) w∧G i w w
section
variable {P:Program} {ops:Array Oper} {V:Nat→(Nat→Bool)→World→Value→Prop} {C:(Nat→Bool)→World→Prop} {G:Nat→World→World→Prop} {Q:Act→World→Prop}
structure LexL (ops:Array Oper) (V:Nat→(Nat→Bool)→World→Value→Prop) (C:(Nat→Bool)→World→Prop) (a0:Act) (listed:Array Bool) (a:Act) (w:World):Prop where
 cls:C (fun k=>listed.getD k true) w
 lsize:listed.size=ops.size
 size:a.tmps.size=a0.tmps.size
 defers:a.defers=a0.defers
 closed:∀(i:Nat) o,ops[i]? =some o→listed.getD i true=true→∀j∈depsOf o,listed.getD j true=true
 done:∀(i:Nat) o,ops[i]? =some o→listed.getD i true=true→∀d,o.dst=some d→V i (fun k=>listed.getD k true) w (a.tmps.getD d undef)
 rest:∀t,(∀(i:Nat) o,ops[i]? =some o→listed.getD i true=true→o.dst≠some t)→a.tmps.getD t undef=a0.tmps.getD t undef
theorem wpAny_lexL {a0:Act} {Q':Exit→Act→World→Prop} (hok:lexOk ops=true) (hN:∀(i:Nat) o d,ops[i]? =some o→o.dst=some d→d<a0.tmps.size)
  (hmono:∀(i j:Nat) oj,ops[j]? =some oj→i∉depsOf oj→i≠j→∀L w w' v,L i=false→C L w→C (fun k=>k==i||L k) w'→G i w w'→V j L w v→V j (fun k=>k==i||L k) w' v) (steps:∀x (i:Nat) o,ops[i]? =some o→StepL1 P ops V C G i o (putN ops x a0 i))
  (hQ:∀x w,C (fun _=>true) w→(∀(k:Nat) o,ops[k]? =some o→o.dst.isSome=true→V k (fun _=>true) w (x k))→Q' .normal (putN ops x a0 ops.size) w):
  ∀(fuel:Nat) (listed:Array Bool) (a:Act) (w:World),unlisted ops.size listed=fuel→LexL ops V C a0 listed a w→wpAny P .any ops Q' fuel listed a w:=by
 have hend:∀(listed:Array Bool) (a:Act) (w:World),(∀i,i<ops.size→listed.getD i true=true)→LexL ops V C a0 listed a w→Q' .normal a w:=by
  intro listed a w hall hl;have hC:=hl.cls
  have hlt:(fun k=>listed.getD k true)=fun _=>true:=funext fun k=>by
   by_cases hk:k<ops.size
   ·exact hall k hk
   ·rw[Array.getD_eq_getD_getElem?,Array.getElem?_eq_none (by rw[hl.lsize];omega)];rfl
  rw[hlt]at hC
  have hq:=hQ (valsOf ops a) w hC fun k o hk hs=>by obtain⟨d,hd⟩:=Option.isSome_iff_exists.1 hs;have:=hl.done k _ hk (hall k (Array.getElem?_eq_some_iff.1 hk).1) d hd;rw[hlt]at this;unfold valsOf;rw[hk];simp only[Option.bind_some,hd];exact this
  have e:putN ops (valsOf ops a) a0 ops.size=a:=by
   have hsz:(putN ops (valsOf ops a) a0 ops.size).tmps.size=a.tmps.size:=by rw[putN_size,hl.size]
   have hd:(putN ops (valsOf ops a) a0 ops.size).defers=a.defers:=by rw[putN_defers,hl.defers]
   have ht:(putN ops (valsOf ops a) a0 ops.size).tmps=a.tmps:=by
    apply Array.ext_getElem?;intro t;apply get_of_getD hsz;by_cases hw:∃j,j<ops.size∧(ops[j]?).bind (·.dst)=some t
    ·exact putN_self hl.size _ _ hw
    ·rw[putN_other _ _ _ _ (fun j hj hd=>hw ⟨j,hj,hd⟩)];exact(hl.rest t fun i o hi _ hd=>hw ⟨i,(Array.getElem?_eq_some_iff.1 hi).1,by rw[hi];exact hd⟩).symm
   cases h1:putN ops (valsOf ops a) a0 ops.size;cases a;simp only[h1]at hd ht;rw[hd,ht]
  rw[e]at hq;exact hq
 intro fuel
 induction fuel with
 |zero=>
  intro listed a w hu hl
  have hall:∀i,i<ops.size→listed.getD i true=true:=by intro i hi;have:=List.eq_nil_of_length_eq_zero hu;have h2:=List.filter_eq_nil_iff.1 this i (List.mem_range.2 hi);simpa using h2
  refine⟨?_,hend listed a w hall hl⟩;unfold Region.ready;rw[List.filter_eq_nil_iff];intro i hi;simp[hall i (List.mem_range.1 hi)]
 |succ fuel ih=>
  intro listed a w hu hl;refine⟨fun hr=>hend listed a w ?_ hl,fun i hi=> ?_⟩
  ·have hall:∀n,∀i,i<n→i<ops.size→listed.getD i true=true:=by
    intro n
    induction n with
    |zero=>intro i h;omega
    |succ n ihn=>
     intro i hin hio;by_cases hlt:i<n
     ·exact ihn i hlt hio
     ·obtain rfl:i=n:=by omega
      unfold Region.ready at hr;have h2:=List.filter_eq_nil_iff.1 hr i (List.mem_range.2 hio)
      cases hb:listed.getD i true with
      |true=>rfl
      |false=>
       exfalso;apply h2;have hoi:ops[i]? =some ops[i]:=Array.getElem?_eq_getElem hio;have hdeps:=(lexOk_spec hok hoi).1;rw[hb,hoi];simp only[Bool.not_false,Bool.true_and,Option.map_some,Option.getD_some];rw[Array.all_eq_true_iff_forall_mem];intro e he
       cases hbn:Region.binds .any e with
       |false=>rfl
       |true=>
        have hm:e.on∈depsOf ops[i]:=List.mem_map.2 ⟨e,List.mem_filter.2 ⟨by simpa using he,hbn⟩,rfl⟩;have h3:=ihn e.on (hdeps _ hm) (by have:=hdeps _ hm;omega)
        have h4:e.on<listed.size:=by rw[hl.lsize];have:=hdeps _ hm;omega
        simp only[Array.getD_eq_getD_getElem?,Array.getElem?_eq_getElem h4]at h3⊢;simpa using h3
   exact fun i hi=>hall (i+1) i (by omega) hi
  ·unfold Region.ready at hi;obtain⟨hir,hcond⟩:=List.mem_filter.1 hi;have hio:=List.mem_range.1 hir;have hoi:ops[i]? =some ops[i]:=Array.getElem?_eq_getElem hio;generalize ops[i]=o at hoi;simp only[hoi,Option.map_some,Option.getD_some,Bool.and_eq_true,Bool.not_eq_true']at hcond;obtain⟨hun,hafter⟩:=hcond;obtain⟨hdlt,hsel,hshape⟩:=lexOk_spec hok hoi
   have hdeps:∀j∈depsOf o,listed.getD j true=true:=by
    intro j hj;obtain⟨e,he,rfl⟩:=List.mem_map.1 hj;obtain⟨he1,he2⟩:=List.mem_filter.1 he;have h3:=(Array.all_eq_true_iff_forall_mem.1 hafter) e (by simpa using he1);rw[he2]at h3;simp only[Bool.not_true,Bool.false_or]at h3
    have h4:e.on<listed.size:=by rw[hl.lsize];have:=hdlt _ hj;omega
    simp only[Array.getD_eq_getD_getElem?,Array.getElem?_eq_getElem h4]at h3⊢;simpa using h3
   have hnext:∀j,reach ops ops.size j i=true→listed.getD j true=false:=by
    intro j hj
    cases hb:listed.getD j true with
    |false=>rfl
    |true=>
     have:listed.getD i true=true:=reach_closed (L:=fun k=>listed.getD k true) hl.closed _ _ _ hj hb;rw[hun]at this;cases this
   let x:=valsOf ops a
   have hlook:∀t∈o.looksAt ops,(putN ops x a0 i).tmps.getD t undef=a.tmps.getD t undef:=by
    intro t ht;by_cases hw:∃j,j<i∧(ops[j]?).bind (·.dst)=some t
    ·exact putN_self hl.size _ _ hw
    ·rw[putN_other _ _ _ _ (fun j hj hd=>hw ⟨j,hj,hd⟩)];refine(hl.rest t fun k ok hk hlk hdk=> ?_).symm;rcases(hshape k ok t hk hdk).2 ht with h1|h1
     ·exact hw ⟨k,hdlt k h1,by rw[hk];exact hdk⟩
     ·have:=hl.closed k ok hk hlk i h1;rw[hun]at this;cases this
   have hssz:(putN ops x a0 i).tmps.size=a.tmps.size:=by rw[putN_size,hl.size]
   have hex:execOp (putN ops x a0 i).eval o=execOp a.eval o:=execOp_congr o hsel fun y hy=>by
    cases y with
    |tmp t=>
     have:t∈o.looksAt ops:=List.mem_append_left _ (List.mem_filterMap.2 ⟨.tmp t,by simpa using hy,rfl⟩);have h5:=hlook t this;simpa[Act.eval]using h5
    |_=>rfl
   have hwt:=wanted_of (ops:=ops) (o:=o) hssz hlook
   have hdepF:∀l:List Nat,(∀j∈l,j∈depsOf o)→DepL ops V (fun k=>listed.getD k true) (putN ops x a0 i).tmps w l:=by
    intro l
    induction l with
    |nil=>intro _;trivial
    |cons j l ihl=>
     intro hj;refine⟨?_,ihl fun k hk=>hj k (List.mem_cons_of_mem _ hk)⟩;have hjd:=hj j (List.mem_cons_self ..);have hji:=hdlt j hjd;have hoj:ops[j]? =some ops[j]:=Array.getElem?_eq_getElem (by omega);have hd:=hl.done j _ hoj (hdeps j hjd)
     cases hdst:(ops[j]?).bind (·.dst)with
     |none=>trivial
     |some d=>
      show V j (fun k=>listed.getD k true) w _;rw[hoj]at hdst;simp only[Option.bind_some]at hdst;rw[putN_self hl.size i d ⟨j,hji,by rw[hoj];exact hdst⟩];exact hd d hdst
   have hst:=steps x i o hoi w (fun k=>listed.getD k true) hl.cls hun hdeps hnext (hdepF _ fun _ h=>h);rw[hwt,hex]at hst
   have hset:∀k,(listed.setIfInBounds i true).getD k true=(k==i||listed.getD k true):=by
    intro k;simp only[Array.getD_eq_getD_getElem?,Array.getElem?_setIfInBounds];by_cases e:i=k
    ·subst e;simp[hl.lsize,hio]
    ·rw[if_neg e];simp[Ne.symm e]
   have go:∀v w',C (fun k=>k==i||listed.getD k true) w'→(∀(k:Nat) ok,ops[k]? =some ok→i∉depsOf ok→i≠k→∀u,V k (fun k=>listed.getD k true) w u→V k (fun k=>k==i||listed.getD k true) w' u)→V i (fun k=>k==i||listed.getD k true) w' v→wpAny P .any ops Q' fuel (listed.setIfInBounds i true) (a.put o.dst v) w':=by
    intro v w' hC hm hV;apply ih
    ·have:=unlisted_set hl.lsize hio hun;omega
    ·refine⟨?_,by simp[hl.lsize],by rw[put_size];exact hl.size,by rw[put_defers];exact hl.defers,?_,?_,?_⟩
     ·rw[show(fun k=>(listed.setIfInBounds i true).getD k true)=fun k=>k==i||listed.getD k true from funext hset];exact hC
     ·intro k ok hk hlk j hj;rw[hset]at hlk⊢;by_cases e:k=i
      ·subst e;rw[hoi]at hk;cases hk;rw[hdeps j hj];simp
      ·have:listed.getD k true=true:=by simpa[e]using hlk
       rw[hl.closed k ok hk this j hj];simp
     ·intro k ok hk hlk d hdst;rw[show(fun k=>(listed.setIfInBounds i true).getD k true)=fun k=>k==i||listed.getD k true from funext hset];rw[hset]at hlk;by_cases e:k=i
      ·subst e;rw[hoi]at hk;cases hk;rw[hdst,put_get,if_pos ⟨rfl,by rw[hl.size];exact hN k o d hoi hdst⟩];exact hV
      ·have hlk':listed.getD k true=true:=by simpa[e]using hlk
       have hnd:i∉depsOf ok:=fun h=>by have:=hl.closed k ok hk hlk' i h;rw[hun]at this;cases this
       have:=hm k ok hk hnd (Ne.symm e) _ (hl.done k ok hk hlk' d hdst);have hne:=(hshape k ok d hk hdst).1 (Ne.symm e)
       cases hd2:o.dst with
       |none=>exact this
       |some d2=>
        rw[put_get,if_neg]
        ·exact this
        ·rintro⟨rfl,_⟩;exact hne hd2
     ·intro t ht;have h1:=hl.rest t fun k ok hk hlk=>ht k ok hk (by rw[hset,hlk];simp);have h2:=ht i o hoi (by rw[hset];simp);rw[←h1]
      cases hd2:o.dst with
      |none=>rfl
      |some d2=>
       rw[put_get,if_neg];rintro⟨rfl,_⟩;exact h2 hd2
   unfold wpOp;simp only[hoi];split at hst
   ·rename_i hw;rw[if_pos hw];left;unfold Oper.wp;generalize (execOp a.eval o).run P w=r at hst
    cases r with
    |halt h w'=>exact hst.elim
    |ok n w'=>
     cases n with
     |value v=>exact go v w' hst.1 (fun k ok hk hnd hne u=>hmono i k ok hk hnd hne _ w w' u hun hl.cls hst.1 hst.2.1) hst.2.2
     |skip=>exact go undef w' hst.1 (fun k ok hk hnd hne u=>hmono i k ok hk hnd hne _ w w' u hun hl.cls hst.1 hst.2.1) hst.2.2
     |enter f args=>
      refine Calls.mono (show Calls P f args w' _ from hst) ?_;rintro e w'' ⟨v,rfl,h1,h2,h3⟩;exact go v w'' h1 (fun k ok hk hnd hne u=>hmono i k ok hk hnd hne _ w w'' u hun hl.cls h1 h2) h3
     |_=>exact(show False from hst).elim
   ·rename_i hw;rw[if_neg hw];exact go undef w hst.2.1 (fun k ok hk hnd hne u=>hmono i k ok hk hnd hne _ w w u hun hl.cls hst.2.1 hst.2.2) hst.1
theorem DepL.get {L:Nat→Bool} {tmps:Array Value} {w:World} {l:List Nat} (h:DepL ops V L tmps w l) {j:Nat} (hj:l.contains j=true) {d:Tmp} (hd:(ops[j]?).bind (·.dst)=some d):V j L w (tmps.getD d undef):=by
 induction l with
 |nil=>cases hj
 |cons k l ih=>
  by_cases e:j=k
  ·subst e;have:=h.1;rw[hd]at this;exact this
  ·refine ih h.2 ?_;rw[List.contains_cons]at hj;simpa[e]using hj
def FactsL (V:Nat→(Nat→Bool)→World→Value→Prop) (a0:Act) (L:Nat→Bool) (w:World) (f:Tmp→Value):List (Tmp×Option Nat)→Prop
 | []=>True
 | (t,some j)::r=>V j L w (f t)∧FactsL V a0 L w f r
 | (t,none)::r=>f t=a0.tmps.getD t undef∧FactsL V a0 L w f r
def StepL2 (P:Program) (V:Nat→(Nat→Bool)→World→Value→Prop) (C:(Nat→Bool)→World→Prop) (G:Nat→World→World→Prop) (a0:Act) (i:Nat) (o:Oper) (r:Reads):Prop:=
 ∀w L (f:Tmp→Value),C L w→L i=false→(∀j∈depsOf o,L j=true)→(∀j∈r.next,L j=false)→FactsL V a0 L w f r.reads→
  if wantedBy o (f r.guard)=true then relUpon P (fun v w'=>C (fun k=>k==i||L k) w'∧G i w w'∧V i (fun k=>k==i||L k) w' v) ((execOp (evalOf f) o).run P w)
  else V i (fun k=>k==i||L k) w undef∧C (fun k=>k==i||L k) w∧G i w w
def StepAllL (P:Program) (V:Nat→(Nat→Bool)→World→Value→Prop) (C:(Nat→Bool)→World→Prop) (G:Nat→World→World→Prop) (a0:Act):Nat→List Oper→List Reads→Prop
 |_,[],_=>True
 |i,o::l,rs=>StepL2 P V C G a0 i o (rs.headD ⟨[],0,[]⟩)∧StepAllL P V C G a0 (i+1) l rs.tail
theorem StepAllL.get {a0:Act} (l:List Oper):∀(R:List Reads) (i k:Nat) (o:Oper),StepAllL P V C G a0 i l R→l[k]? =some o→StepL2 P V C G a0 (i+k) o ((R.drop k).headD ⟨[],0,[]⟩):=by
 induction l with
 |nil=>intro R i k o _ hk;simp at hk
 |cons o' l ih=>
  intro R i k o h hk
  cases k with
  |zero=>
   simp at hk;subst hk;exact h.1
  |succ k=>
   have h2:=ih R.tail (i+1) k o h.2 (by simpa using hk);rw[List.drop_tail,Nat.add_assoc,Nat.add_comm 1 k]at h2;exact h2
theorem FactsL.of {L:Nat→Bool} {a0 a:Act} {w:World} {o:Oper} {i:Nat} (hD:DepL ops V L a.tmps w (depsOf o)) (ha:∀t:Tmp,(∀(j:Nat) (oj:Oper),ops[j]? =some oj→oj.dst=some t→i∈depsOf oj)→a.tmps.getD t undef=a0.tmps.getD t undef):
  ∀l:List (Tmp×Option Nat),(l.all fun p=>match p.2 with
    |some j=>(match ops[j]? with|some oj=>oj.dst==some p.1|none=>false)&&(depsOf o).contains j
    |none=>(List.range ops.size).all fun j=>match ops[j]? with|some oj=>oj.dst !=some p.1|| (depsOf oj).contains i|none=>true)=true→FactsL V a0 L w (fun t=>a.tmps.getD t undef) l:=by
 intro l
 induction l with
 |nil=>intro _;trivial
 |cons p l ih=>
  intro h;rw[List.all_cons,Bool.and_eq_true]at h;obtain⟨t,s⟩:=p
  cases s with
  |some j=>
   simp only[Bool.and_eq_true]at h;refine⟨?_,ih h.2⟩
   cases hj:ops[j]? with
   |none=>rw[hj]at h;exact absurd h.1.1 (by simp)
   |some oj=>
    rw[hj]at h;exact hD.get h.1.2 (by rw[hj];simpa using h.1.1)
  |none=>
   refine⟨ha t fun j oj hj hd=> ?_,ih h.2⟩;have h3:=List.all_eq_true.1 h.1 j (List.mem_range.2 (Array.getElem?_eq_some_iff.1 hj).1);simp only[hj,hd,bne_self_eq_false,Bool.false_or]at h3;exact List.contains_iff_mem.1 h3
theorem StepL1.of {a0:Act} {R:List Reads} (hok:lexOk ops=true) (htab:tabOkL ops R=true) (hall:StepAllL P V C G a0 0 ops.toList R) (x:Nat→Value) (i:Nat) (o:Oper) (hi:ops[i]? =some o):
  StepL1 P ops V C G i o (putN ops x a0 i):=by
 intro w L hC hL hd hn hD;have hilt:=(Array.getElem?_eq_some_iff.1 hi).1;have ht:=List.all_eq_true.1 htab i (List.mem_range.2 hilt);simp only[hi,Bool.and_eq_true]at ht;have h2:=StepAllL.get ops.toList R 0 i o hall (by simpa using hi);rw[Nat.zero_add]at h2;generalize (R.drop i).headD ⟨[],0,[]⟩=r at ht h2;have hnx:∀j∈r.next,L j=false:=fun j hj=>hn j (List.all_eq_true.1 ht.2 j hj)
 have hf:=FactsL.of (a0:=a0) (a:=putN ops x a0 i) hD (fun t h=>putN_other x a0 i t fun j hj hjd=>by
  cases hoj:ops[j]? with
  |none=>rw[hoj]at hjd;cases hjd
  |some oj=>
   rw[hoj]at hjd;have:=(lexOk_spec hok hoj).1 i (h j oj hoj hjd)
   omega) r.reads ht.1.1
 have h3:=h2 w L (fun t=>(putN ops x a0 i).tmps.getD t undef) hC hL hd hnx hf;rw[evalOf_tmps]at h3
 have hw:Region.wanted o (yielded ops (putN ops x a0 i).tmps)=wantedBy o ((putN ops x a0 i).tmps.getD r.guard undef):=by
  unfold Region.wanted wantedBy
  cases hg:o.guard with
  |none=>rfl
  |some g=>
   obtain⟨j,want⟩:=g;have h4:=ht.1.2;rw[hg]at h4;simp only at h4⊢
   cases hoj:ops[j]? with
   |none=>rw[hoj]at h4;exact absurd h4 (by simp)
   |some oj=>
    rw[hoj]at h4
    have hdst:oj.dst=some r.guard:=by simpa using h4
    unfold yielded;simp only[hoj,Option.bind_some,hdst];rw[Array.getD_eq_getD_getElem?]
    cases (putN ops x a0 i).tmps[r.guard]? with
    |none=>rfl
    |some v=>cases v<;>rfl
 rw[hw];exact h3
def AllKeptL (C:(Nat→Bool)→World→Prop) (G:Nat→World→World→Prop):Nat→List ((Nat→Bool)→World→Value→Prop)→List Reads→Prop
 |_,[],_=>True
 |j,f::r,rs=>(∀i,i≠j→((rs.headD ⟨[],0,[]⟩).reads.all fun p=>p.2 !=some i)=true→∀L w w' v,L i=false→C L w→C (fun k=>k==i||L k) w'→G i w w'→f L w v→f (fun k=>k==i||L k) w' v)∧AllKeptL C G (j+1) r rs.tail
theorem AllKeptL.get:∀(l:List ((Nat→Bool)→World→Value→Prop)) (R:List Reads) (n:Nat),AllKeptL C G n l R→∀i j,i≠n+j→(((R.drop j).headD ⟨[],0,[]⟩).reads.all fun p=>p.2 !=some i)=true→∀L w w' v,L i=false→C L w→C (fun k=>k==i||L k) w'→G i w w'→(l.getD j fun _ _ _=>True) L w v→(l.getD j fun _ _ _=>True) (fun k=>k==i||L k) w' v
 | [],_,_,_,_,_,_,_=>by intro L w w' v _ _ _ _ _;exact trivial
 |f::r,R,n,h,i,0,hne,hr=>h.1 i hne hr
 |f::r,R,n,h,i,j+1,hne,hr=>AllKeptL.get r R.tail (n+1) h.2 i j (by omega) (by rw[List.drop_tail];exact hr)
theorem reads_depsL {R:List Reads} (htab:tabOkL ops R=true) {j:Nat} {oj:Oper} (hj:ops[j]? =some oj) {i:Nat} (hi:i∉depsOf oj):(((R.drop j).headD ⟨[],0,[]⟩).reads.all fun p=>p.2 !=some i)=true:=by
 have ht:=List.all_eq_true.1 htab j (List.mem_range.2 (Array.getElem?_eq_some_iff.1 hj).1);simp only[hj,Bool.and_eq_true]at ht;rw[List.all_eq_true];intro p hp;have h1:=List.all_eq_true.1 ht.1.1 p hp;obtain⟨t,s⟩:=p
 cases s with
 |none=>rfl
 |some k=>
  simp only[Bool.and_eq_true]at h1;have h2:=List.contains_iff_mem.1 h1.2;simp only[bne_iff_ne,ne_eq,Option.some.injEq];rintro rfl;exact hi h2
theorem wp_region_tabL {id:Nat} {a0:Act} {w:World} {Q':Exit→Act→World→Prop} (Vs:List ((Nat→Bool)→World→Value→Prop)) (R:List Reads) (D:List (Option Nat)) (C:(Nat→Bool)→World→Prop) (G:Nat→World→World→Prop)
  (hm:P.follows .mixedOrders=true) (hok:lexOk ops=true) (htab:tabOkL ops R=true) (hfr:framedOk ops D a0.tmps.size=true) (hN:dstIn ops a0.tmps.size=true) (hmono:AllKeptL C G 0 Vs R)
  (h0:C (fun k=> !decide (k<ops.size)) {w with drawn:=w.drawn+1})
  (each:StepAllL P (fun i=>Vs.getD i fun _ _ _=>True) C G a0 0 ops.toList R)
  (fin:∀(x:Nat→Value) w',C (fun _=>true) w'→(∀k o,ops[k]? =some o→o.dst.isSome=true→(Vs.getD k fun _ _ _=>True) (fun _=>true) w' (x k))→Q' .normal ⟨(framed x D a0.tmps.toList).toArray,a0.defers⟩ w'):
  (Code.region id ops true).wp P Q' a0 w:=by
 refine wp_region_any hm (wpAny_lexL (V:=fun i=>Vs.getD i fun _ _ _=>True) (C:=C) (G:=G) (a0:=a0) hok ?_ (fun i j oj hj hi hne=>AllKeptL.get Vs R 0 hmono i j (by omega) (reads_depsL htab hj hi)) (fun x i o hi=>StepL1.of hok htab each x i o hi) ?_ ops.size _ a0 _ ?_ ?_)
 ·intro i o d hi hd;have:=List.all_eq_true.1 hN o (by simpa using Array.mem_of_getElem? hi);rw[hd]at this;simpa using this
 ·intro x w hC hV;rw[putN_framed hok hfr];exact fin x w hC hV
 ·unfold unlisted;rw[List.filter_eq_self.2]
  ·simp
  ·intro i hi;have:=List.mem_range.1 hi;simp[this]
 ·refine⟨?_,by simp,rfl,rfl,?_,?_,fun _ _=>rfl⟩
  ·rw[show(fun k=>(Array.replicate ops.size false).getD k true)=fun k=> !decide (k<ops.size)from funext fun k=>by
    rw[Array.getD_eq_getD_getElem?,Array.getElem?_replicate]
    by_cases h:k<ops.size<;>simp[h]]
   exact h0
  ·intro i o hi hl;have:=(Array.getElem?_eq_some_iff.1 hi).1;simp[this]at hl
  ·intro i o hi hl;have:=(Array.getElem?_eq_some_iff.1 hi).1;simp[this]at hl
theorem StepL2.dead {b:Bool} {X A B D:Prop} (hb:b=false) (h1:B) (h2:A) (h3:D):if b=true then X else A∧B∧D:=by subst hb;exact⟨h2,h1,h3⟩
def Till (n:Nat) (R:World→Value→Prop) (L:Nat→Bool) (w:World) (v:Value):Prop:=L n=false→R w v
theorem Till.keep {n i:Nat} {R:World→Value→Prop} {L:Nat→Bool} {w w':World} {v:Value} (h:Till n R L w v) (hk:i≠n→R w v→R w' v):Till n R (fun k=>k==i||L k) w' v:=fun hn=>by
 simp only[Bool.or_eq_false_iff,beq_eq_false_iff_ne]at hn;exact hk (fun e=>hn.1 e.symm) (h hn.2)
end
end Go.Proofs.YtpndglghpojjkaaGreat
namespace Go.Proofs.YtpndglghpojjkaaGreat
open Go.RowKit Go.Deep
theorem cmpF_no {C:PC} {sum:PS→Ex×PS} {t:List UInt8} {s:PS} (h:isF C t s=false) (a:Ex) (k:Nat) (l:List (List UInt8)) (_u:Unit):cmpF C sum a k (t::l) s=cmpF C sum a (k+1) l s:=by
 conv=>lhs;unfold cmpF
 rw[if_neg (by rw[h];simp)]
theorem cmp_at (k:Nat) (hk:k<6):(#[.string ⟨#[61,61]⟩,.string ⟨#[33,61]⟩,.string ⟨#[60]⟩,.string ⟨#[60,61]⟩,.string ⟨#[62]⟩,.string ⟨#[62,61]⟩]:Array Value)[k]? =some (.string ⟨(cmpT[k]'hk).toArray⟩):=by
 match k,hk with
 |0,_=>rfl
 |1,_=>rfl
 |2,_=>rfl
 |3,_=>rfl
 |4,_=>rfl
 |5,_=>rfl
theorem not_step (m:Nat) (sum:PC→PS→Ex×PS) (cond not_:PC→PS→Cn×PS) (hsum:Reads6 130 m sum) (hcond:ReadsC 131 (m+1) cond) (hnot:ReadsC 192 (m+1) not_)
  (hs0:∀C s,Stp C s (sum C s).2) (hs1:∀C s,Stp C s (cond C s).2) (hs2:∀C s,Stp C s (not_ C s).2):ReadsC 192 m (fun C=>notF C (sum C) (cond C) (not_ C)):=by
 intro C Z w s hP hm;have hM:=zi (Moved.refl hP);have hlt0:=hP.lt;obtain⟨b1,b2,b3,b4,b5,b6,b7⟩:=hP.bounds;show Calls _ _ _ _ (CnPost C Z (notF C (sum C) (cond C) (not_ C) s) w);obtain⟨R,hR⟩:∃x,x=notF C (sum C) (cond C) (not_ C) s:=⟨_,rfl⟩;rw[←hR]
 cases h33:isF C [33] s with
 |true=>
  cases ho:(openF C s).1 with
  |false=>
   have hF:Hid (R=(.nil,(openF C s).2)):=zi (by rw[hR];unfold notF;simp only[h33,ho];rfl);have ho':=zi (pair_of ho);replace h33:=zi h33;clear hP hR ho;go_enter Tryz.func192,Tryz.ntmps192;go_wp2_with fail;refine(is_from hM.out [33] h33.out).mono ?_;rintro e w1 ⟨rfl,h1,-⟩;have h1:=zi h1;go_wp2_with fail;refine(open_from h1.out ho'.out).mono ?_;rintro e w2 ⟨rfl,h2,-⟩;have h2:=zi h2;go_wp2_with fail;go_ret;rw[hF.out];exact CnPost.of h2.out (CnAt.nil_ _ _)
  |true=>
   obtain⟨e1,_,hlt⟩:=openF_true ho;have hi:=isF_lt h33;obtain⟨s2,hs2'⟩:∃x,x=(openF C s).2:=⟨_,rfl⟩;obtain⟨r,hr⟩:∃x,x=not_ C s2.next:=⟨_,rfl⟩;have hF:Hid (R=(.mk 8 .nil .nil r.1 .nil [],r.2.shut)):=zi (by rw[hR,hr,hs2'];unfold notF;simp only[h33,ho];rfl);have ho':Hid (openF C s=(true,s2)):=zi (by rw[hs2'];exact pair_of ho)
   have hi3:s2.i<C.tk.length:=by rw[hs2',e1];exact hi
   have hdp:m+1≤s2.next.deep:=by rw[hs2',e1];simp only[PS.next];omega
   have hd1:1≤r.2.deep:=by rw[hr,(hs2 C s2.next).dp];omega
   replace hr:=zi hr;replace h33:=zi h33;clear hP hR ho e1 hs2';go_enter Tryz.func192,Tryz.ntmps192;go_wp2_with fail;refine(is_from hM.out [33] h33.out).mono ?_;rintro e w1 ⟨rfl,h1,-⟩;have h1:=zi h1;go_wp2_with fail;refine(open_from h1.out ho'.out).mono ?_;rintro e w2 ⟨rfl,h2,-⟩;obtain⟨a0,d0,d1,d2,d3,d4,d5,d6,dfz⟩:=h2.facts;have h2:=zi h2;have hw1:=i64_next (i:=s2.i) (by omega);go_wp2_with fail;refine(hnot.from_ (h2.out.next hi3) hdp hr.out.symm).mono ?_;rintro e w3 ⟨p,rfl,h3,hE,-⟩;clear a0 d0 d1 d2 d3 d4 d5 d6 dfz hw1 h2 h1;obtain⟨c1,c2,c3,c4,c5,c6,c7⟩:=h3.bounds;obtain⟨a0,d0,d1,d2,d3,d4,d5,d6,dfz⟩:=h3.facts;have h3:=zi h3;have hE:=zi hE;have hw1:=i64_pred hd1 (by omega);go_wp2_with fail;go_ret;rw[hF.out];have h4:=h3.out.shut hd1;have hst:Writes [some Z.g] w3 (w3.setCell ⟨Z.g,5,none⟩ (.int .i64 ((r.2.deep:Int)-1))):=Writes.store w3 (by simp) _;exact CnPost.of (h4.below (below_new _ _)) (CnAt.new 8 [] (by decide) (by simp) (Nat.le_trans h3.out.wr.size hst.size) (setCell_size _ _ _).symm (ExAt.nil_ _ _) (ExAt.nil_ _ _) (hE.out.pw hst hlt0) (CnAt.nil_ _ _))
 |false=>
  cases h40:isF C [40] s with
  |true=>
   cases ho:(openF C s).1 with
   |false=>
    have hF:Hid (R=(.nil,(openF C s).2)):=zi (by rw[hR];unfold notF;simp only[h33,h40,ho];rfl);have ho':=zi (pair_of ho);replace h33:=zi h33;replace h40:=zi h40;clear hP hR ho;go_enter Tryz.func192,Tryz.ntmps192;go_wp2_with fail;refine(is_from hM.out [33] h33.out).mono ?_;rintro e w1 ⟨rfl,h1,-⟩;have h1:=zi h1;go_wp2_with fail;refine(is_from h1.out [40] h40.out).mono ?_;rintro e w2 ⟨rfl,h2,-⟩;have h2:=zi h2;go_wp2_with fail;refine(open_from h2.out ho'.out).mono ?_;rintro e w3 ⟨rfl,h3,-⟩;have h3:=zi h3;go_wp2_with fail;go_ret;rw[hF.out];exact CnPost.of h3.out (CnAt.nil_ _ _)
   |true=>
    obtain⟨e1,_,hlt⟩:=openF_true ho;have hi:=isF_lt h40;obtain⟨s2,hs2'⟩:∃x,x=(openF C s).2:=⟨_,rfl⟩;obtain⟨r,hr⟩:∃x,x=cond C s2.next:=⟨_,rfl⟩;obtain⟨s3,hs3⟩:∃x,x=wantF C [41] r.2:=⟨_,rfl⟩;have hF:Hid (R=(r.1,s3.shut)):=zi (by rw[hR,hs3,hr,hs2'];unfold notF;simp only[h33,h40,ho];rfl);have ho':Hid (openF C s=(true,s2)):=zi (by rw[hs2'];exact pair_of ho)
    have hi3:s2.i<C.tk.length:=by rw[hs2',e1];exact hi
    have hdp:m+1≤s2.next.deep:=by rw[hs2',e1];simp only[PS.next];omega
    have hd1:1≤s3.deep:=by rw[hs3,(Stp.want [41] r.2).dp,hr,(hs1 C s2.next).dp];omega
    replace hr:=zi hr;replace hs3:=zi hs3;replace h33:=zi h33;replace h40:=zi h40;clear hP hR ho e1 hs2';go_enter Tryz.func192,Tryz.ntmps192;go_wp2_with fail;refine(is_from hM.out [33] h33.out).mono ?_;rintro e w1 ⟨rfl,h1,-⟩;have h1:=zi h1;go_wp2_with fail;refine(is_from h1.out [40] h40.out).mono ?_;rintro e w2 ⟨rfl,h2,-⟩;have h2:=zi h2;go_wp2_with fail;refine(open_from h2.out ho'.out).mono ?_;rintro e w3 ⟨rfl,h3,-⟩;obtain⟨a0,d0,d1,d2,d3,d4,d5,d6,dfz⟩:=h3.facts;have h3:=zi h3;have hw1:=i64_next (i:=s2.i) (by omega);go_wp2_with fail;refine(hcond.from_ (h3.out.next hi3) hdp hr.out.symm).mono ?_;rintro e w4 ⟨p,rfl,h4,hE,-⟩;clear a0 d0 d1 d2 d3 d4 d5 d6 dfz hw1 h2 h1 h3;have h4:=zi h4;have hE:=zi hE;go_wp2_with fail;refine(want_from h4.out [41] hs3.out.symm).mono ?_;rintro e w5 ⟨rfl,h5,hW5⟩;have hE5:=zi (hE.out.pw hW5 hlt0);clear hW5 hE h4;obtain⟨c1,c2,c3,c4,c5,c6,c7⟩:=h5.bounds;obtain⟨a0,d0,d1,d2,d3,d4,d5,d6,dfz⟩:=h5.facts;have h5:=zi h5;have hw1:=i64_pred hd1 (by omega);go_wp2_with fail;go_ret;rw[hF.out];have h6:=h5.out.shut hd1
    have hst:Writes [some Z.g] w5 (w5.setCell ⟨Z.g,5,none⟩ (.int .i64 ((s3.deep:Int)-1))):=Writes.store w5 (by simp) _;exact CnPost.of h6 (hE5.out.pw hst hlt0)
  |false=>
   have hNull:nullF C s=(namedF C s&&(decide (s.i+2<C.tk.length)&&(txtAt C (s.i+2)== [110,117,108,108]&&(txtAt C (s.i+1)== [61,61]||txtAt C (s.i+1)== [33,61])))):=rfl;obtain⟨nf,hnf⟩:∃x,x=nullF C s:=⟨_,rfl⟩;rw[←hnf]at hNull;have hTok:=hP;replace h33:=zi h33;replace h40:=zi h40;replace hR:=zi hR;replace hTok:=zi hTok;replace hNull:=zi hNull;replace hnf:=zi hnf;clear hP;go_enter Tryz.func192,Tryz.ntmps192;go_wp2_with fail;refine(is_from hM.out [33] h33.out).mono ?_;rintro e w1 ⟨rfl,h1,-⟩;replace h1:=zi h1;go_wp2_with fail;refine(is_from h1.out [40] h40.out).mono ?_;rintro e w2 ⟨rfl,hgo,-⟩;replace hgo:=zi hgo;clear h1;go_upto_region 16 with(fail);go_cut [118] (fun bv wc=>bv= .bool nf∧Hid (Moved C Z s w wc))
   case first=>
    have hw1:IntKind.i64.wrap ((s.i:Int)+2)=(s.i:Int)+2:=IntWalk.i64_in _ (by omega);have hw2:=i64_next (i:=s.i) (by omega)
    have p1:(0:Int)≤(s.i:Int)+1:=by omega
    have p2:(0:Int)≤(s.i:Int)+2:=by omega
    have p3:((s.i:Int)+1).toNat=s.i+1:=by omega
    have p4:((s.i:Int)+2).toNat=s.i+2:=by omega
    cases hn:namedF C s with
    |false=>
     have hN2:Hid (nf=false):=zi (by rw[hNull.out,hn];rfl);replace hn:=zi hn;refine wp_region_tabL ((eqv (.pointer (some ⟨Z.g,0,none⟩)))::(eqv (.bool false))::(eqv (.bool false))::eud::eud::eud::eud::eud::eud::eud::eud::eud::eud::eud::(eqv (.bool false))::(eqv (.bool false))::eud::eud::eud::eud::eud::eud::eud::eud::eud::eud::eud::eud::eud::(eqv (.bool false))::(eqv (.bool false))::eud::eud::eud::eud::eud::eud::eud::eud::eud::eud::eud::eud::eud::eud::eud::eud::eud::eud::eud::eud::eud::eud::eud::eud::eud::eud::eud::eud::(eqv (.bool false))::[])
      ((rn1 0)::(rd1 59 0)::(rd1 60 1)::(rq1 0 61 2)::(rg1 62 3 61 2)::(rg1 63 4 61 2)::(rg1 64 5 61 2)::(rg1 65 6 61 2)::(rq1 0 61 2)::(rg1 67 8 61 2)::(rg1 68 9 61 2)::(rg1 69 10 61 2)::(rg1 70 11 61 2)::⟨[(66,some 7),(71,some 12),(61,some 2)],61,[]⟩::⟨[(61,some 2),(72,some 13)],0,[]⟩::(rd1 73 14)::(rq1 0 74 15)::(rg1 75 16 74 15)::(rg1 76 17 74 15)::(rg1 77 18 74 15)::(rq1 0 74 15)::(rg1 79 20 74 15)::(rg1 80 21 74 15)::(rg1 81 22 74 15)::(rg1 82 23 74 15)::⟨[(78,some 19),(83,some 24),(74,some 15)],74,[]⟩::(rg1 84 25 74 15)::(rg1 85 26 74 15)::(rg1 86 27 74 15)::⟨[(74,some 15),(87,some 28)],0,[]⟩::(rd1 88 29)::(rq1 0 89 30)::(rg1 90 31 89 30)::(rg1 91 32 89 30)::(rg1 92 33 89 30)::(rq1 0 89 30)::(rg1 94 35 89 30)::(rg1 95 36 89 30)::(rg1 96 37 89 30)::(rg1 97 38 89 30)::⟨[(93,some 34),(98,some 39),(89,some 30)],89,[]⟩::(rg1 99 40 89 30)::(rg1 100 41 89 30)::(rg1 101 42 89 30)::(rg1 102 43 89 30)::(rq1 0 103 44)::(rg1 104 45 103 44)::(rg1 105 46 103 44)::(rg1 106 47 103 44)::(rq1 0 103 44)::(rg1 108 49 103 44)::(rg1 109 50 103 44)::(rg1 110 51 103 44)::(rg1 111 52 103 44)::⟨[(107,some 48),(112,some 53),(103,some 44)],103,[]⟩::(rg1 113 54 103 44)::(rg1 114 55 103 44)::(rg1 115 56 103 44)::⟨[(103,some 44),(116,some 57),(89,some 30)],89,[]⟩::⟨[(89,some 30),(117,some 58)],0,[]⟩::[])
      (no::no::no::no::no::no::no::no::no::no::no::no::no::no::no::no::no::no::no::no::no::no::no::no::no::no::no::no::no::no::no::no::no::no::no::no::no::no::no::no::no::no::no::no::no::no::no::no::no::no::no::no::no::no::no::no::no::no::no::so 0::so 1::so 2::so 3::so 4::so 5::so 6::so 7::so 8::so 9::so 10::so 11::so 12::so 13::so 14::so 15::so 16::so 17::so 18::so 19::so 20::so 21::so 22::so 23::so 24::so 25::so 26::so 27::so 28::so 29::so 30::so 31::so 32::so 33::so 34::so 35::so 36::so 37::so 38::so 39::so 40::so 41::so 42::so 43::so 44::so 45::so 46::so 47::so 48::so 49::so 50::so 51::so 52::so 53::so 54::so 55::so 56::so 57::so 58::so 59::[])
      (fun _ w'=>Moved C Z s w w') (fun _ _ _=>True) ?mixK16f ?okK16f ?tabK16f ?frK16f ?inK16f ?keptK16f ?startK16f ?eachK16f ?finK16f
     case mixK16f|okK16f|tabK16f|frK16f=>kernel_rfl
     case inK16f=>rfl
     case keptK16f=>((repeat refine⟨fun _ _ _ _ _ _ _ _ _ _ _ h=>h,?_⟩);exact trivial)
     case startK16f=>exact hgo.out.below (Below.refl _ _).drew
     case eachK16f=>
      repeat' first|exact trivial|refine And.intro ?_ ?_
      ·intro w L f hC hLi hLd hLn ⟨d,_⟩;refine Step2.live rfl ?_;exact relUpon_value (v:=f 0) rfl (hC) (trivial) d
      ·intro w L f hC hLi hLd hLn ⟨a,_⟩;change _=_ at a;refine Step2.live rfl ?_;obtain⟨ev,ec,ef⟩:=evs f;refine relUpon_call (f:=64) (args:= #[.pointer (some ⟨Z.g,0,none⟩)]) (w:=w) (by go_simp) (named_from hC hn.out) ?_;rintro e w1 ⟨he,h1,-⟩;exact⟨_,he,h1,trivial,rfl⟩
      ·intro w L f hC hLi hLd hLn ⟨d,_⟩;refine Step2.live rfl ?_;exact relUpon_value (v:=f 60) rfl (hC) (trivial) d
      iterate 10 (intro w L f hC hLi hLd hLn ⟨_,d,_⟩;refine StepL2.dead (show wantedBy _ (f 61)=false by rw[show f 61=_ from d];rfl) (hC) ?_ (trivial);exact rfl)
      ·intro w L f hC hLi hLd hLn ⟨_,_,d,_⟩;refine StepL2.dead (show wantedBy _ (f 61)=false by rw[show f 61=_ from d];rfl) (hC) ?_ (trivial);exact rfl
      ·intro w L f hC hLi hLd hLn ⟨a,b,_⟩;change _=_ at a b;refine Step2.live rfl ?_;obtain⟨u0,u1,u2,u3,u4,u5,u6,u7,ufz⟩:=hC.facts;obtain⟨ev,ec,ef⟩:=evs f;refine relUpon_value ?_ hC trivial rfl;go_simp
      ·intro w L f hC hLi hLd hLn ⟨d,_⟩;refine Step2.live rfl ?_;exact relUpon_value (v:=f 73) rfl (hC) (trivial) d
      iterate 9 (intro w L f hC hLi hLd hLn ⟨_,d,_⟩;refine StepL2.dead (show wantedBy _ (f 74)=false by rw[show f 74=_ from d];rfl) (hC) ?_ (trivial);exact rfl)
      ·intro w L f hC hLi hLd hLn ⟨_,_,d,_⟩;refine StepL2.dead (show wantedBy _ (f 74)=false by rw[show f 74=_ from d];rfl) (hC) ?_ (trivial);exact rfl
      iterate 3 (intro w L f hC hLi hLd hLn ⟨_,d,_⟩;refine StepL2.dead (show wantedBy _ (f 74)=false by rw[show f 74=_ from d];rfl) (hC) ?_ (trivial);exact rfl)
      ·intro w L f hC hLi hLd hLn ⟨a,b,_⟩;change _=_ at a b;refine Step2.live rfl ?_;obtain⟨u0,u1,u2,u3,u4,u5,u6,u7,ufz⟩:=hC.facts;obtain⟨ev,ec,ef⟩:=evs f;refine relUpon_value ?_ hC trivial rfl;go_simp
      ·intro w L f hC hLi hLd hLn ⟨d,_⟩;refine Step2.live rfl ?_;exact relUpon_value (v:=f 88) rfl (hC) (trivial) d
      iterate 9 (intro w L f hC hLi hLd hLn ⟨_,d,_⟩;refine StepL2.dead (show wantedBy _ (f 89)=false by rw[show f 89=_ from d];rfl) (hC) ?_ (trivial);exact rfl)
      ·intro w L f hC hLi hLd hLn ⟨_,_,d,_⟩;refine StepL2.dead (show wantedBy _ (f 89)=false by rw[show f 89=_ from d];rfl) (hC) ?_ (trivial);exact rfl
      iterate 4 (intro w L f hC hLi hLd hLn ⟨_,d,_⟩;refine StepL2.dead (show wantedBy _ (f 89)=false by rw[show f 89=_ from d];rfl) (hC) ?_ (trivial);exact rfl)
      iterate 9 (intro w L f hC hLi hLd hLn ⟨_,d,_⟩;refine StepL2.dead (show wantedBy _ (f 103)=false by rw[show f 103=_ from d];rfl) (hC) ?_ (trivial);exact rfl)
      ·intro w L f hC hLi hLd hLn ⟨_,_,d,_⟩;refine StepL2.dead (show wantedBy _ (f 103)=false by rw[show f 103=_ from d];rfl) (hC) ?_ (trivial);exact rfl
      iterate 3 (intro w L f hC hLi hLd hLn ⟨_,d,_⟩;refine StepL2.dead (show wantedBy _ (f 103)=false by rw[show f 103=_ from d];rfl) (hC) ?_ (trivial);exact rfl)
      ·intro w L f hC hLi hLd hLn ⟨_,_,d,_⟩;refine StepL2.dead (show wantedBy _ (f 89)=false by rw[show f 89=_ from d];rfl) (hC) ?_ (trivial);exact rfl
      ·intro w L f hC hLi hLd hLn ⟨a,b,_⟩;change _=_ at a b;refine Step2.live rfl ?_;obtain⟨u0,u1,u2,u3,u4,u5,u6,u7,ufz⟩:=hC.facts;obtain⟨ev,ec,ef⟩:=evs f;refine relUpon_value ?_ hC trivial rfl;go_simp
     intro x w' hC hV
     have e0:x 59= .bool nf:=(hV 59 _ rfl rfl).trans (by rw[hN2.out]);clear hV;simp only[framed];rw[e0];have hC:=zi hC;go_wp2_with fail
     go_meet
     case rel=>exact⟨rfl,hC⟩
    |true=>
     by_cases hi2:s.i+2<C.tk.length
     case neg=>
      have hi2':¬((s.i:Int)+2<(C.tk.length:Int)):=by omega
      have hN2:Hid (nf=false):=zi (by rw[hNull.out,decide_eq_false hi2];simp);replace hn:=zi hn;refine wp_region_tabL ((eqv (.pointer (some ⟨Z.g,0,none⟩)))::(eqv (.bool true))::(eqv (.bool true))::(eqv (.pointer (some ⟨Z.g,0,none⟩)))::(eqv (.pointer (some ⟨Z.g,0,none⟩)))::(eqv (.pointer (some ⟨Z.g,1,none⟩)))::(eqv (.int .i64 ((s.i:Int))))::(eqv (.int .i64 ((s.i:Int)+2)))::(eqv (.pointer (some ⟨Z.g,0,none⟩)))::(eqv (.pointer (some ⟨Z.g,0,none⟩)))::(eqv (.pointer (some ⟨Z.g,0,none⟩)))::(eqv (.slice Z.A C.tk.length Z.c))::(eqv (.int .i64 ((C.tk.length:Int))))::(eqv (.bool false))::(eqv (.bool false))::(eqv (.bool false))::eud::eud::eud::eud::eud::eud::eud::eud::eud::eud::eud::eud::eud::(eqv (.bool false))::(eqv (.bool false))::eud::eud::eud::eud::eud::eud::eud::eud::eud::eud::eud::eud::eud::eud::eud::eud::eud::eud::eud::eud::eud::eud::eud::eud::eud::eud::eud::eud::(eqv (.bool false))::[])
       ((rn1 0)::(rd1 59 0)::(rd1 60 1)::(rq1 0 61 2)::(rg1 62 3 61 2)::(rg1 63 4 61 2)::(rg1 64 5 61 2)::(rg1 65 6 61 2)::(rq1 0 61 2)::(rg1 67 8 61 2)::(rg1 68 9 61 2)::(rg1 69 10 61 2)::(rg1 70 11 61 2)::⟨[(66,some 7),(71,some 12),(61,some 2)],61,[]⟩::⟨[(61,some 2),(72,some 13)],0,[]⟩::(rd1 73 14)::(rq1 0 74 15)::(rg1 75 16 74 15)::(rg1 76 17 74 15)::(rg1 77 18 74 15)::(rq1 0 74 15)::(rg1 79 20 74 15)::(rg1 80 21 74 15)::(rg1 81 22 74 15)::(rg1 82 23 74 15)::⟨[(78,some 19),(83,some 24),(74,some 15)],74,[]⟩::(rg1 84 25 74 15)::(rg1 85 26 74 15)::(rg1 86 27 74 15)::⟨[(74,some 15),(87,some 28)],0,[]⟩::(rd1 88 29)::(rq1 0 89 30)::(rg1 90 31 89 30)::(rg1 91 32 89 30)::(rg1 92 33 89 30)::(rq1 0 89 30)::(rg1 94 35 89 30)::(rg1 95 36 89 30)::(rg1 96 37 89 30)::(rg1 97 38 89 30)::⟨[(93,some 34),(98,some 39),(89,some 30)],89,[]⟩::(rg1 99 40 89 30)::(rg1 100 41 89 30)::(rg1 101 42 89 30)::(rg1 102 43 89 30)::(rq1 0 103 44)::(rg1 104 45 103 44)::(rg1 105 46 103 44)::(rg1 106 47 103 44)::(rq1 0 103 44)::(rg1 108 49 103 44)::(rg1 109 50 103 44)::(rg1 110 51 103 44)::(rg1 111 52 103 44)::⟨[(107,some 48),(112,some 53),(103,some 44)],103,[]⟩::(rg1 113 54 103 44)::(rg1 114 55 103 44)::(rg1 115 56 103 44)::⟨[(103,some 44),(116,some 57),(89,some 30)],89,[]⟩::⟨[(89,some 30),(117,some 58)],0,[]⟩::[])
       (no::no::no::no::no::no::no::no::no::no::no::no::no::no::no::no::no::no::no::no::no::no::no::no::no::no::no::no::no::no::no::no::no::no::no::no::no::no::no::no::no::no::no::no::no::no::no::no::no::no::no::no::no::no::no::no::no::no::no::so 0::so 1::so 2::so 3::so 4::so 5::so 6::so 7::so 8::so 9::so 10::so 11::so 12::so 13::so 14::so 15::so 16::so 17::so 18::so 19::so 20::so 21::so 22::so 23::so 24::so 25::so 26::so 27::so 28::so 29::so 30::so 31::so 32::so 33::so 34::so 35::so 36::so 37::so 38::so 39::so 40::so 41::so 42::so 43::so 44::so 45::so 46::so 47::so 48::so 49::so 50::so 51::so 52::so 53::so 54::so 55::so 56::so 57::so 58::so 59::[])
       (fun _ w'=>Moved C Z s w w') (fun _ _ _=>True) ?mixK16tf ?okK16tf ?tabK16tf ?frK16tf ?inK16tf ?keptK16tf ?startK16tf ?eachK16tf ?finK16tf
      case mixK16tf|okK16tf|tabK16tf|frK16tf=>kernel_rfl
      case inK16tf=>rfl
      case keptK16tf=>((repeat refine⟨fun _ _ _ _ _ _ _ _ _ _ _ h=>h,?_⟩);exact trivial)
      case startK16tf=>exact hgo.out.below (Below.refl _ _).drew
      case eachK16tf=>
       repeat' first|exact trivial|refine And.intro ?_ ?_
       ·intro w L f hC hLi hLd hLn ⟨d,_⟩;refine Step2.live rfl ?_;exact relUpon_value (v:=f 0) rfl (hC) (trivial) d
       ·intro w L f hC hLi hLd hLn ⟨a,_⟩;change _=_ at a;refine Step2.live rfl ?_;obtain⟨ev,ec,ef⟩:=evs f;refine relUpon_call (f:=64) (args:= #[.pointer (some ⟨Z.g,0,none⟩)]) (w:=w) (by go_simp) (named_from hC hn.out) ?_;rintro e w1 ⟨he,h1,-⟩;exact⟨_,he,h1,trivial,rfl⟩
       ·intro w L f hC hLi hLd hLn ⟨d,_⟩;refine Step2.live rfl ?_;exact relUpon_value (v:=f 60) rfl (hC) (trivial) d
       ·intro w L f hC hLi hLd hLn ⟨d0,d61,_⟩;change _=_ at d0 d61;refine Step2.live (show wantedBy _ (f 61)=true by rw[d61];rfl) ?_;exact relUpon_value (v:=f 0) rfl (hC) (trivial) d0
       iterate 4 (intro w L f hC hLi hLd hLn ⟨a,d61,_⟩;change _=_ at a d61;refine Step2.live (show wantedBy _ (f 61)=true by rw[d61];rfl) ?_;obtain⟨u0,u1,u2,u3,u4,u5,u6,u7,ufz⟩:=hC.facts;obtain⟨ev,ec,ef⟩:=evs f;refine relUpon_value ?_ hC trivial rfl;go_simp)
       ·intro w L f hC hLi hLd hLn ⟨d0,d61,_⟩;change _=_ at d0 d61;refine Step2.live (show wantedBy _ (f 61)=true by rw[d61];rfl) ?_;exact relUpon_value (v:=f 0) rfl (hC) (trivial) d0
       iterate 4 (intro w L f hC hLi hLd hLn ⟨a,d61,_⟩;change _=_ at a d61;refine Step2.live (show wantedBy _ (f 61)=true by rw[d61];rfl) ?_;obtain⟨u0,u1,u2,u3,u4,u5,u6,u7,ufz⟩:=hC.facts;obtain⟨ev,ec,ef⟩:=evs f;refine relUpon_value ?_ hC trivial rfl;go_simp)
       ·intro w L f hC hLi hLd hLn ⟨a,b,d61,_⟩;change _=_ at a b d61;refine Step2.live (show wantedBy _ (f 61)=true by rw[d61];rfl) ?_;obtain⟨u0,u1,u2,u3,u4,u5,u6,u7,ufz⟩:=hC.facts;obtain⟨ev,ec,ef⟩:=evs f;refine relUpon_value ?_ hC trivial rfl;go_simp
       ·intro w L f hC hLi hLd hLn ⟨a,b,_⟩;change _=_ at a b;refine Step2.live rfl ?_;obtain⟨u0,u1,u2,u3,u4,u5,u6,u7,ufz⟩:=hC.facts;obtain⟨ev,ec,ef⟩:=evs f;refine relUpon_value ?_ hC trivial rfl;go_simp
       ·intro w L f hC hLi hLd hLn ⟨d,_⟩;refine Step2.live rfl ?_;exact relUpon_value (v:=f 73) rfl (hC) (trivial) d
       iterate 9 (intro w L f hC hLi hLd hLn ⟨_,d,_⟩;refine StepL2.dead (show wantedBy _ (f 74)=false by rw[show f 74=_ from d];rfl) (hC) ?_ (trivial);exact rfl)
       ·intro w L f hC hLi hLd hLn ⟨_,_,d,_⟩;refine StepL2.dead (show wantedBy _ (f 74)=false by rw[show f 74=_ from d];rfl) (hC) ?_ (trivial);exact rfl
       iterate 3 (intro w L f hC hLi hLd hLn ⟨_,d,_⟩;refine StepL2.dead (show wantedBy _ (f 74)=false by rw[show f 74=_ from d];rfl) (hC) ?_ (trivial);exact rfl)
       ·intro w L f hC hLi hLd hLn ⟨a,b,_⟩;change _=_ at a b;refine Step2.live rfl ?_;obtain⟨u0,u1,u2,u3,u4,u5,u6,u7,ufz⟩:=hC.facts;obtain⟨ev,ec,ef⟩:=evs f;refine relUpon_value ?_ hC trivial rfl;go_simp
       ·intro w L f hC hLi hLd hLn ⟨d,_⟩;refine Step2.live rfl ?_;exact relUpon_value (v:=f 88) rfl (hC) (trivial) d
       iterate 9 (intro w L f hC hLi hLd hLn ⟨_,d,_⟩;refine StepL2.dead (show wantedBy _ (f 89)=false by rw[show f 89=_ from d];rfl) (hC) ?_ (trivial);exact rfl)
       ·intro w L f hC hLi hLd hLn ⟨_,_,d,_⟩;refine StepL2.dead (show wantedBy _ (f 89)=false by rw[show f 89=_ from d];rfl) (hC) ?_ (trivial);exact rfl
       iterate 4 (intro w L f hC hLi hLd hLn ⟨_,d,_⟩;refine StepL2.dead (show wantedBy _ (f 89)=false by rw[show f 89=_ from d];rfl) (hC) ?_ (trivial);exact rfl)
       iterate 9 (intro w L f hC hLi hLd hLn ⟨_,d,_⟩;refine StepL2.dead (show wantedBy _ (f 103)=false by rw[show f 103=_ from d];rfl) (hC) ?_ (trivial);exact rfl)
       ·intro w L f hC hLi hLd hLn ⟨_,_,d,_⟩;refine StepL2.dead (show wantedBy _ (f 103)=false by rw[show f 103=_ from d];rfl) (hC) ?_ (trivial);exact rfl
       iterate 3 (intro w L f hC hLi hLd hLn ⟨_,d,_⟩;refine StepL2.dead (show wantedBy _ (f 103)=false by rw[show f 103=_ from d];rfl) (hC) ?_ (trivial);exact rfl)
       ·intro w L f hC hLi hLd hLn ⟨_,_,d,_⟩;refine StepL2.dead (show wantedBy _ (f 89)=false by rw[show f 89=_ from d];rfl) (hC) ?_ (trivial);exact rfl
       ·intro w L f hC hLi hLd hLn ⟨a,b,_⟩;change _=_ at a b;refine Step2.live rfl ?_;obtain⟨u0,u1,u2,u3,u4,u5,u6,u7,ufz⟩:=hC.facts;obtain⟨ev,ec,ef⟩:=evs f;refine relUpon_value ?_ hC trivial rfl;go_simp
      intro x w' hC hV
      have e0:x 59= .bool nf:=(hV 59 _ rfl rfl).trans (by rw[hN2.out]);clear hV;simp only[framed];rw[e0];have hC:=zi hC;go_wp2_with fail
      go_meet
      case rel=>exact⟨rfl,hC⟩
     case pos=>
      obtain⟨x2,hx2⟩:∃x,C.tk[s.i+2]? =some x:=⟨_,List.getElem?_eq_getElem hi2⟩;obtain⟨x1,hx1⟩:∃x,C.tk[s.i+1]? =some x:=⟨_,List.getElem?_eq_getElem (by omega)⟩;obtain⟨b,off,hA,hbg,_⟩:=hTok.out.tok (k:=s.i) (by omega)
      have hT2:txtAt C (s.i+2)=x2.t:=by unfold txtAt;rw[hx2]
      have hT1:txtAt C (s.i+1)=x1.t:=by unfold txtAt;rw[hx1]
      have hN:nf=((x2.t== [110,117,108,108])&&((x1.t== [61,61])|| (x1.t== [33,61]))):=by rw[hNull.out,hn,hT1,hT2,decide_eq_true hi2];rfl
      have hi2':((s.i:Int)+2<(C.tk.length:Int)):=by omega
      have p5:(s.i:Int)+1<(C.tk.length:Int):=by omega
      clear hT1 hT2;replace hn:=zi hn;replace hx2:=zi hx2;replace hx1:=zi hx1;by_cases q2:x2.t= [110,117,108,108]
      case neg=>
       have k2:((strV x2.t).toList== [110,117,108,108])=false:=by rw[strV_toList];simpa using q2
       have hN2:Hid (nf=false):=zi (by rw[hN,show(x2.t== [110,117,108,108])=false by simpa using q2];rfl);clear hN q2
       refine wp_region_tabL ((eqv (.pointer (some ⟨Z.g,0,none⟩)))::(eqv (.bool true))::(eqv (.bool true))::(eqv (.pointer (some ⟨Z.g,0,none⟩)))::(eqv (.pointer (some ⟨Z.g,0,none⟩)))::(eqv (.pointer (some ⟨Z.g,1,none⟩)))::(eqv (.int .i64 ((s.i:Int))))::(eqv (.int .i64 ((s.i:Int)+2)))::(eqv (.pointer (some ⟨Z.g,0,none⟩)))::(eqv (.pointer (some ⟨Z.g,0,none⟩)))::(eqv (.pointer (some ⟨Z.g,0,none⟩)))::(eqv (.slice (some ⟨b,off,none⟩) C.tk.length Z.c))::(eqv (.int .i64 ((C.tk.length:Int))))::(eqv (.bool true))::(eqv (.bool true))::(eqv (.bool true))::(eqv (.pointer (some ⟨Z.g,0,none⟩)))::(eqv (.pointer (some ⟨Z.g,0,none⟩)))::(eqv (.pointer (some ⟨Z.g,0,none⟩)))::(eqv (.slice (some ⟨b,off,none⟩) C.tk.length Z.c))::(eqv (.pointer (some ⟨Z.g,0,none⟩)))::(eqv (.pointer (some ⟨Z.g,0,none⟩)))::(eqv (.pointer (some ⟨Z.g,1,none⟩)))::(eqv (.int .i64 ((s.i:Int))))::(eqv (.int .i64 ((s.i:Int)+2)))::(eqv (.pointer (some ⟨b,off+(s.i+2)*3,none⟩)))::(eqv (.pointer (some ⟨b,off+(s.i+2)*3+1,none⟩)))::(eqv (.string (strV x2.t)))::(eqv (.bool false))::(eqv (.bool false))::(eqv (.bool false))::eud::eud::eud::eud::eud::eud::eud::eud::eud::eud::eud::eud::eud::eud::eud::eud::eud::eud::eud::eud::eud::eud::eud::eud::eud::eud::eud::eud::(eqv (.bool false))::[])
        ((rn1 0)::(rd1 59 0)::(rd1 60 1)::(rq1 0 61 2)::(rg1 62 3 61 2)::(rg1 63 4 61 2)::(rg1 64 5 61 2)::(rg1 65 6 61 2)::(rq1 0 61 2)::(rg1 67 8 61 2)::(rg1 68 9 61 2)::(rg1 69 10 61 2)::(rg1 70 11 61 2)::⟨[(66,some 7),(71,some 12),(61,some 2)],61,[]⟩::⟨[(61,some 2),(72,some 13)],0,[]⟩::(rd1 73 14)::(rq1 0 74 15)::(rg1 75 16 74 15)::(rg1 76 17 74 15)::(rg1 77 18 74 15)::(rq1 0 74 15)::(rg1 79 20 74 15)::(rg1 80 21 74 15)::(rg1 81 22 74 15)::(rg1 82 23 74 15)::⟨[(78,some 19),(83,some 24),(74,some 15)],74,[]⟩::(rg1 84 25 74 15)::(rg1 85 26 74 15)::(rg1 86 27 74 15)::⟨[(74,some 15),(87,some 28)],0,[]⟩::(rd1 88 29)::(rq1 0 89 30)::(rg1 90 31 89 30)::(rg1 91 32 89 30)::(rg1 92 33 89 30)::(rq1 0 89 30)::(rg1 94 35 89 30)::(rg1 95 36 89 30)::(rg1 96 37 89 30)::(rg1 97 38 89 30)::⟨[(93,some 34),(98,some 39),(89,some 30)],89,[]⟩::(rg1 99 40 89 30)::(rg1 100 41 89 30)::(rg1 101 42 89 30)::(rg1 102 43 89 30)::(rq1 0 103 44)::(rg1 104 45 103 44)::(rg1 105 46 103 44)::(rg1 106 47 103 44)::(rq1 0 103 44)::(rg1 108 49 103 44)::(rg1 109 50 103 44)::(rg1 110 51 103 44)::(rg1 111 52 103 44)::⟨[(107,some 48),(112,some 53),(103,some 44)],103,[]⟩::(rg1 113 54 103 44)::(rg1 114 55 103 44)::(rg1 115 56 103 44)::⟨[(103,some 44),(116,some 57),(89,some 30)],89,[]⟩::⟨[(89,some 30),(117,some 58)],0,[]⟩::[])
        (no::no::no::no::no::no::no::no::no::no::no::no::no::no::no::no::no::no::no::no::no::no::no::no::no::no::no::no::no::no::no::no::no::no::no::no::no::no::no::no::no::no::no::no::no::no::no::no::no::no::no::no::no::no::no::no::no::no::no::so 0::so 1::so 2::so 3::so 4::so 5::so 6::so 7::so 8::so 9::so 10::so 11::so 12::so 13::so 14::so 15::so 16::so 17::so 18::so 19::so 20::so 21::so 22::so 23::so 24::so 25::so 26::so 27::so 28::so 29::so 30::so 31::so 32::so 33::so 34::so 35::so 36::so 37::so 38::so 39::so 40::so 41::so 42::so 43::so 44::so 45::so 46::so 47::so 48::so 49::so 50::so 51::so 52::so 53::so 54::so 55::so 56::so 57::so 58::so 59::[])
        (fun _ w'=>Moved C Z s w w') (fun _ _ _=>True) ?mixK16ttf ?okK16ttf ?tabK16ttf ?frK16ttf ?inK16ttf ?keptK16ttf ?startK16ttf ?eachK16ttf ?finK16ttf
       case mixK16ttf|okK16ttf|tabK16ttf|frK16ttf=>kernel_rfl
       case inK16ttf=>rfl
       case keptK16ttf=>((repeat refine⟨fun _ _ _ _ _ _ _ _ _ _ _ h=>h,?_⟩);exact trivial)
       case startK16ttf=>exact hgo.out.below (Below.refl _ _).drew
       case eachK16ttf=>
        repeat' first|exact trivial|refine And.intro ?_ ?_
        ·intro w L f hC hLi hLd hLn ⟨d,_⟩;refine Step2.live rfl ?_;exact relUpon_value (v:=f 0) rfl (hC) (trivial) d
        ·intro w L f hC hLi hLd hLn ⟨a,_⟩;change _=_ at a;refine Step2.live rfl ?_;obtain⟨ev,ec,ef⟩:=evs f;refine relUpon_call (f:=64) (args:= #[.pointer (some ⟨Z.g,0,none⟩)]) (w:=w) (by go_simp) (named_from hC hn.out) ?_;rintro e w1 ⟨he,h1,-⟩;exact⟨_,he,h1,trivial,rfl⟩
        ·intro w L f hC hLi hLd hLn ⟨d,_⟩;refine Step2.live rfl ?_;exact relUpon_value (v:=f 60) rfl (hC) (trivial) d
        ·intro w L f hC hLi hLd hLn ⟨d0,d61,_⟩;change _=_ at d0 d61;refine Step2.live (show wantedBy _ (f 61)=true by rw[d61];rfl) ?_;exact relUpon_value (v:=f 0) rfl (hC) (trivial) d0
        iterate 4 (intro w L f hC hLi hLd hLn ⟨a,d61,_⟩;change _=_ at a d61;refine Step2.live (show wantedBy _ (f 61)=true by rw[d61];rfl) ?_;obtain⟨u0,u1,u2,u3,u4,u5,u6,u7,ufz⟩:=hC.facts;obtain⟨ev,ec,ef⟩:=evs f;refine relUpon_value ?_ hC trivial rfl;go_simp)
        ·intro w L f hC hLi hLd hLn ⟨d0,d61,_⟩;change _=_ at d0 d61;refine Step2.live (show wantedBy _ (f 61)=true by rw[d61];rfl) ?_;exact relUpon_value (v:=f 0) rfl (hC) (trivial) d0
        iterate 4 (intro w L f hC hLi hLd hLn ⟨a,d61,_⟩;change _=_ at a d61;refine Step2.live (show wantedBy _ (f 61)=true by rw[d61];rfl) ?_;obtain⟨u0,u1,u2,u3,u4,u5,u6,u7,ufz⟩:=hC.facts;obtain⟨ev,ec,ef⟩:=evs f;refine relUpon_value ?_ hC trivial rfl;go_simp)
        ·intro w L f hC hLi hLd hLn ⟨a,b,d61,_⟩;change _=_ at a b d61;refine Step2.live (show wantedBy _ (f 61)=true by rw[d61];rfl) ?_;obtain⟨u0,u1,u2,u3,u4,u5,u6,u7,ufz⟩:=hC.facts;obtain⟨ev,ec,ef⟩:=evs f;refine relUpon_value ?_ hC trivial rfl;go_simp
        ·intro w L f hC hLi hLd hLn ⟨a,b,_⟩;change _=_ at a b;refine Step2.live rfl ?_;obtain⟨u0,u1,u2,u3,u4,u5,u6,u7,ufz⟩:=hC.facts;obtain⟨ev,ec,ef⟩:=evs f;refine relUpon_value ?_ hC trivial rfl;go_simp
        ·intro w L f hC hLi hLd hLn ⟨d,_⟩;refine Step2.live rfl ?_;exact relUpon_value (v:=f 73) rfl (hC) (trivial) d
        ·intro w L f hC hLi hLd hLn ⟨d0,d74,_⟩;change _=_ at d0 d74;refine Step2.live (show wantedBy _ (f 74)=true by rw[d74];rfl) ?_;exact relUpon_value (v:=f 0) rfl (hC) (trivial) d0
        iterate 3 (intro w L f hC hLi hLd hLn ⟨a,d74,_⟩;change _=_ at a d74;refine Step2.live (show wantedBy _ (f 74)=true by rw[d74];rfl) ?_;obtain⟨u0,u1,u2,u3,u4,u5,u6,u7,ufz⟩:=hC.facts;obtain⟨ev,ec,ef⟩:=evs f;refine relUpon_value ?_ hC trivial rfl;go_simp)
        ·intro w L f hC hLi hLd hLn ⟨d0,d74,_⟩;change _=_ at d0 d74;refine Step2.live (show wantedBy _ (f 74)=true by rw[d74];rfl) ?_;exact relUpon_value (v:=f 0) rfl (hC) (trivial) d0
        iterate 4 (intro w L f hC hLi hLd hLn ⟨a,d74,_⟩;change _=_ at a d74;refine Step2.live (show wantedBy _ (f 74)=true by rw[d74];rfl) ?_;obtain⟨u0,u1,u2,u3,u4,u5,u6,u7,ufz⟩:=hC.facts;obtain⟨ev,ec,ef⟩:=evs f;refine relUpon_value ?_ hC trivial rfl;go_simp)
        ·intro w L f hC hLi hLd hLn ⟨a,b,d74,_⟩;change _=_ at a b d74;refine Step2.live (show wantedBy _ (f 74)=true by rw[d74];rfl) ?_;obtain⟨u0,u1,u2,u3,u4,u5,u6,u7,ufz⟩:=hC.facts;obtain⟨ev,ec,ef⟩:=evs f;refine relUpon_value ?_ hC trivial rfl;go_simp
        ·intro w L f hC hLi hLd hLn ⟨a,d74,_⟩;change _=_ at a d74;refine Step2.live (show wantedBy _ (f 74)=true by rw[d74];rfl) ?_;obtain⟨u0,u1,u2,u3,u4,u5,u6,u7,ufz⟩:=hC.facts;obtain⟨ev,ec,ef⟩:=evs f;refine relUpon_value ?_ hC trivial rfl;go_simp
        ·intro w L f hC hLi hLd hLn ⟨a,d74,_⟩;change _=_ at a d74;refine Step2.live (show wantedBy _ (f 74)=true by rw[d74];rfl) ?_;obtain⟨u0,u1,u2⟩:=hC.tok hx2.out hA;obtain⟨ev,ec,ef⟩:=evs f;refine relUpon_value ?_ hC trivial rfl;go_simp
        ·intro w L f hC hLi hLd hLn ⟨a,d74,_⟩;change _=_ at a d74;refine Step2.live (show wantedBy _ (f 74)=true by rw[d74];rfl) ?_;obtain⟨u0,u1,u2,u3,u4,u5,u6,u7,ufz⟩:=hC.facts;obtain⟨ev,ec,ef⟩:=evs f;refine relUpon_value ?_ hC trivial rfl;go_simp
        ·intro w L f hC hLi hLd hLn ⟨a,b,_⟩;change _=_ at a b;refine Step2.live rfl ?_;obtain⟨u0,u1,u2,u3,u4,u5,u6,u7,ufz⟩:=hC.facts;obtain⟨ev,ec,ef⟩:=evs f;refine relUpon_value ?_ hC trivial rfl;go_simp
        ·intro w L f hC hLi hLd hLn ⟨d,_⟩;refine Step2.live rfl ?_;exact relUpon_value (v:=f 88) rfl (hC) (trivial) d
        iterate 9 (intro w L f hC hLi hLd hLn ⟨_,d,_⟩;refine StepL2.dead (show wantedBy _ (f 89)=false by rw[show f 89=_ from d];rfl) (hC) ?_ (trivial);exact rfl)
        ·intro w L f hC hLi hLd hLn ⟨_,_,d,_⟩;refine StepL2.dead (show wantedBy _ (f 89)=false by rw[show f 89=_ from d];rfl) (hC) ?_ (trivial);exact rfl
        iterate 4 (intro w L f hC hLi hLd hLn ⟨_,d,_⟩;refine StepL2.dead (show wantedBy _ (f 89)=false by rw[show f 89=_ from d];rfl) (hC) ?_ (trivial);exact rfl)
        iterate 9 (intro w L f hC hLi hLd hLn ⟨_,d,_⟩;refine StepL2.dead (show wantedBy _ (f 103)=false by rw[show f 103=_ from d];rfl) (hC) ?_ (trivial);exact rfl)
        ·intro w L f hC hLi hLd hLn ⟨_,_,d,_⟩;refine StepL2.dead (show wantedBy _ (f 103)=false by rw[show f 103=_ from d];rfl) (hC) ?_ (trivial);exact rfl
        iterate 3 (intro w L f hC hLi hLd hLn ⟨_,d,_⟩;refine StepL2.dead (show wantedBy _ (f 103)=false by rw[show f 103=_ from d];rfl) (hC) ?_ (trivial);exact rfl)
        ·intro w L f hC hLi hLd hLn ⟨_,_,d,_⟩;refine StepL2.dead (show wantedBy _ (f 89)=false by rw[show f 89=_ from d];rfl) (hC) ?_ (trivial);exact rfl
        ·intro w L f hC hLi hLd hLn ⟨a,b,_⟩;change _=_ at a b;refine Step2.live rfl ?_;obtain⟨u0,u1,u2,u3,u4,u5,u6,u7,ufz⟩:=hC.facts;obtain⟨ev,ec,ef⟩:=evs f;refine relUpon_value ?_ hC trivial rfl;go_simp
       intro x w' hC hV
       have e0:x 59= .bool nf:=(hV 59 _ rfl rfl).trans (by rw[hN2.out]);clear hV;simp only[framed];rw[e0];have hC:=zi hC;go_wp2_with fail
       go_meet
       case rel=>exact⟨rfl,hC⟩
      case pos=>
       have k2:((strV x2.t).toList== [110,117,108,108])=true:=by rw[strV_toList,q2];rfl
       by_cases q1:x1.t= [61,61]
       case pos=>
        have k1:((strV x1.t).toList== [61,61])=true:=by rw[strV_toList,q1];rfl
        have hN2:Hid (nf=true):=zi (by rw[hN,q1,q2];rfl);clear hN q2 q1
        refine wp_region_tabL ((eqv (.pointer (some ⟨Z.g,0,none⟩)))::(eqv (.bool true))::(eqv (.bool true))::(eqv (.pointer (some ⟨Z.g,0,none⟩)))::(eqv (.pointer (some ⟨Z.g,0,none⟩)))::(eqv (.pointer (some ⟨Z.g,1,none⟩)))::(eqv (.int .i64 ((s.i:Int))))::(eqv (.int .i64 ((s.i:Int)+2)))::(eqv (.pointer (some ⟨Z.g,0,none⟩)))::(eqv (.pointer (some ⟨Z.g,0,none⟩)))::(eqv (.pointer (some ⟨Z.g,0,none⟩)))::(eqv (.slice (some ⟨b,off,none⟩) C.tk.length Z.c))::(eqv (.int .i64 ((C.tk.length:Int))))::(eqv (.bool true))::(eqv (.bool true))::(eqv (.bool true))::(eqv (.pointer (some ⟨Z.g,0,none⟩)))::(eqv (.pointer (some ⟨Z.g,0,none⟩)))::(eqv (.pointer (some ⟨Z.g,0,none⟩)))::(eqv (.slice (some ⟨b,off,none⟩) C.tk.length Z.c))::(eqv (.pointer (some ⟨Z.g,0,none⟩)))::(eqv (.pointer (some ⟨Z.g,0,none⟩)))::(eqv (.pointer (some ⟨Z.g,1,none⟩)))::(eqv (.int .i64 ((s.i:Int))))::(eqv (.int .i64 ((s.i:Int)+2)))::(eqv (.pointer (some ⟨b,off+(s.i+2)*3,none⟩)))::(eqv (.pointer (some ⟨b,off+(s.i+2)*3+1,none⟩)))::(eqv (.string (strV x2.t)))::(eqv (.bool true))::(eqv (.bool true))::(eqv (.bool true))::(eqv (.pointer (some ⟨Z.g,0,none⟩)))::(eqv (.pointer (some ⟨Z.g,0,none⟩)))::(eqv (.pointer (some ⟨Z.g,0,none⟩)))::(eqv (.slice (some ⟨b,off,none⟩) C.tk.length Z.c))::(eqv (.pointer (some ⟨Z.g,0,none⟩)))::(eqv (.pointer (some ⟨Z.g,0,none⟩)))::(eqv (.pointer (some ⟨Z.g,1,none⟩)))::(eqv (.int .i64 ((s.i:Int))))::(eqv (.int .i64 ((s.i:Int)+1)))::(eqv (.pointer (some ⟨b,off+(s.i+1)*3,none⟩)))::(eqv (.pointer (some ⟨b,off+(s.i+1)*3+1,none⟩)))::(eqv (.string (strV x1.t)))::(eqv (.bool true))::(eqv (.bool true))::eud::eud::eud::eud::eud::eud::eud::eud::eud::eud::eud::eud::eud::(eqv (.bool true))::(eqv (.bool true))::[])
         ((rn1 0)::(rd1 59 0)::(rd1 60 1)::(rq1 0 61 2)::(rg1 62 3 61 2)::(rg1 63 4 61 2)::(rg1 64 5 61 2)::(rg1 65 6 61 2)::(rq1 0 61 2)::(rg1 67 8 61 2)::(rg1 68 9 61 2)::(rg1 69 10 61 2)::(rg1 70 11 61 2)::⟨[(66,some 7),(71,some 12),(61,some 2)],61,[]⟩::⟨[(61,some 2),(72,some 13)],0,[]⟩::(rd1 73 14)::(rq1 0 74 15)::(rg1 75 16 74 15)::(rg1 76 17 74 15)::(rg1 77 18 74 15)::(rq1 0 74 15)::(rg1 79 20 74 15)::(rg1 80 21 74 15)::(rg1 81 22 74 15)::(rg1 82 23 74 15)::⟨[(78,some 19),(83,some 24),(74,some 15)],74,[]⟩::(rg1 84 25 74 15)::(rg1 85 26 74 15)::(rg1 86 27 74 15)::⟨[(74,some 15),(87,some 28)],0,[]⟩::(rd1 88 29)::(rq1 0 89 30)::(rg1 90 31 89 30)::(rg1 91 32 89 30)::(rg1 92 33 89 30)::(rq1 0 89 30)::(rg1 94 35 89 30)::(rg1 95 36 89 30)::(rg1 96 37 89 30)::(rg1 97 38 89 30)::⟨[(93,some 34),(98,some 39),(89,some 30)],89,[]⟩::(rg1 99 40 89 30)::(rg1 100 41 89 30)::(rg1 101 42 89 30)::(rg1 102 43 89 30)::(rq1 0 103 44)::(rg1 104 45 103 44)::(rg1 105 46 103 44)::(rg1 106 47 103 44)::(rq1 0 103 44)::(rg1 108 49 103 44)::(rg1 109 50 103 44)::(rg1 110 51 103 44)::(rg1 111 52 103 44)::⟨[(107,some 48),(112,some 53),(103,some 44)],103,[]⟩::(rg1 113 54 103 44)::(rg1 114 55 103 44)::(rg1 115 56 103 44)::⟨[(103,some 44),(116,some 57),(89,some 30)],89,[]⟩::⟨[(89,some 30),(117,some 58)],0,[]⟩::[])
         (no::no::no::no::no::no::no::no::no::no::no::no::no::no::no::no::no::no::no::no::no::no::no::no::no::no::no::no::no::no::no::no::no::no::no::no::no::no::no::no::no::no::no::no::no::no::no::no::no::no::no::no::no::no::no::no::no::no::no::so 0::so 1::so 2::so 3::so 4::so 5::so 6::so 7::so 8::so 9::so 10::so 11::so 12::so 13::so 14::so 15::so 16::so 17::so 18::so 19::so 20::so 21::so 22::so 23::so 24::so 25::so 26::so 27::so 28::so 29::so 30::so 31::so 32::so 33::so 34::so 35::so 36::so 37::so 38::so 39::so 40::so 41::so 42::so 43::so 44::so 45::so 46::so 47::so 48::so 49::so 50::so 51::so 52::so 53::so 54::so 55::so 56::so 57::so 58::so 59::[])
         (fun _ w'=>Moved C Z s w w') (fun _ _ _=>True) ?mixK16tttt ?okK16tttt ?tabK16tttt ?frK16tttt ?inK16tttt ?keptK16tttt ?startK16tttt ?eachK16tttt ?finK16tttt
        case mixK16tttt|okK16tttt|tabK16tttt|frK16tttt=>kernel_rfl
        case inK16tttt=>rfl
        case keptK16tttt=>((repeat refine⟨fun _ _ _ _ _ _ _ _ _ _ _ h=>h,?_⟩);exact trivial)
        case startK16tttt=>exact hgo.out.below (Below.refl _ _).drew
        case eachK16tttt=>
         repeat' first|exact trivial|refine And.intro ?_ ?_
         ·intro w L f hC hLi hLd hLn ⟨d,_⟩;refine Step2.live rfl ?_;exact relUpon_value (v:=f 0) rfl (hC) (trivial) d
         ·intro w L f hC hLi hLd hLn ⟨a,_⟩;change _=_ at a;refine Step2.live rfl ?_;obtain⟨ev,ec,ef⟩:=evs f;refine relUpon_call (f:=64) (args:= #[.pointer (some ⟨Z.g,0,none⟩)]) (w:=w) (by go_simp) (named_from hC hn.out) ?_;rintro e w1 ⟨he,h1,-⟩;exact⟨_,he,h1,trivial,rfl⟩
         ·intro w L f hC hLi hLd hLn ⟨d,_⟩;refine Step2.live rfl ?_;exact relUpon_value (v:=f 60) rfl (hC) (trivial) d
         ·intro w L f hC hLi hLd hLn ⟨d0,d61,_⟩;change _=_ at d0 d61;refine Step2.live (show wantedBy _ (f 61)=true by rw[d61];rfl) ?_;exact relUpon_value (v:=f 0) rfl (hC) (trivial) d0
         iterate 4 (intro w L f hC hLi hLd hLn ⟨a,d61,_⟩;change _=_ at a d61;refine Step2.live (show wantedBy _ (f 61)=true by rw[d61];rfl) ?_;obtain⟨u0,u1,u2,u3,u4,u5,u6,u7,ufz⟩:=hC.facts;obtain⟨ev,ec,ef⟩:=evs f;refine relUpon_value ?_ hC trivial rfl;go_simp)
         ·intro w L f hC hLi hLd hLn ⟨d0,d61,_⟩;change _=_ at d0 d61;refine Step2.live (show wantedBy _ (f 61)=true by rw[d61];rfl) ?_;exact relUpon_value (v:=f 0) rfl (hC) (trivial) d0
         iterate 4 (intro w L f hC hLi hLd hLn ⟨a,d61,_⟩;change _=_ at a d61;refine Step2.live (show wantedBy _ (f 61)=true by rw[d61];rfl) ?_;obtain⟨u0,u1,u2,u3,u4,u5,u6,u7,ufz⟩:=hC.facts;obtain⟨ev,ec,ef⟩:=evs f;refine relUpon_value ?_ hC trivial rfl;go_simp)
         ·intro w L f hC hLi hLd hLn ⟨a,b,d61,_⟩;change _=_ at a b d61;refine Step2.live (show wantedBy _ (f 61)=true by rw[d61];rfl) ?_;obtain⟨u0,u1,u2,u3,u4,u5,u6,u7,ufz⟩:=hC.facts;obtain⟨ev,ec,ef⟩:=evs f;refine relUpon_value ?_ hC trivial rfl;go_simp
         ·intro w L f hC hLi hLd hLn ⟨a,b,_⟩;change _=_ at a b;refine Step2.live rfl ?_;obtain⟨u0,u1,u2,u3,u4,u5,u6,u7,ufz⟩:=hC.facts;obtain⟨ev,ec,ef⟩:=evs f;refine relUpon_value ?_ hC trivial rfl;go_simp
         ·intro w L f hC hLi hLd hLn ⟨d,_⟩;refine Step2.live rfl ?_;exact relUpon_value (v:=f 73) rfl (hC) (trivial) d
         ·intro w L f hC hLi hLd hLn ⟨d0,d74,_⟩;change _=_ at d0 d74;refine Step2.live (show wantedBy _ (f 74)=true by rw[d74];rfl) ?_;exact relUpon_value (v:=f 0) rfl (hC) (trivial) d0
         iterate 3 (intro w L f hC hLi hLd hLn ⟨a,d74,_⟩;change _=_ at a d74;refine Step2.live (show wantedBy _ (f 74)=true by rw[d74];rfl) ?_;obtain⟨u0,u1,u2,u3,u4,u5,u6,u7,ufz⟩:=hC.facts;obtain⟨ev,ec,ef⟩:=evs f;refine relUpon_value ?_ hC trivial rfl;go_simp)
         ·intro w L f hC hLi hLd hLn ⟨d0,d74,_⟩;change _=_ at d0 d74;refine Step2.live (show wantedBy _ (f 74)=true by rw[d74];rfl) ?_;exact relUpon_value (v:=f 0) rfl (hC) (trivial) d0
         iterate 4 (intro w L f hC hLi hLd hLn ⟨a,d74,_⟩;change _=_ at a d74;refine Step2.live (show wantedBy _ (f 74)=true by rw[d74];rfl) ?_;obtain⟨u0,u1,u2,u3,u4,u5,u6,u7,ufz⟩:=hC.facts;obtain⟨ev,ec,ef⟩:=evs f;refine relUpon_value ?_ hC trivial rfl;go_simp)
         ·intro w L f hC hLi hLd hLn ⟨a,b,d74,_⟩;change _=_ at a b d74;refine Step2.live (show wantedBy _ (f 74)=true by rw[d74];rfl) ?_;obtain⟨u0,u1,u2,u3,u4,u5,u6,u7,ufz⟩:=hC.facts;obtain⟨ev,ec,ef⟩:=evs f;refine relUpon_value ?_ hC trivial rfl;go_simp
         ·intro w L f hC hLi hLd hLn ⟨a,d74,_⟩;change _=_ at a d74;refine Step2.live (show wantedBy _ (f 74)=true by rw[d74];rfl) ?_;obtain⟨u0,u1,u2,u3,u4,u5,u6,u7,ufz⟩:=hC.facts;obtain⟨ev,ec,ef⟩:=evs f;refine relUpon_value ?_ hC trivial rfl;go_simp
         ·intro w L f hC hLi hLd hLn ⟨a,d74,_⟩;change _=_ at a d74;refine Step2.live (show wantedBy _ (f 74)=true by rw[d74];rfl) ?_;obtain⟨u0,u1,u2⟩:=hC.tok hx2.out hA;obtain⟨ev,ec,ef⟩:=evs f;refine relUpon_value ?_ hC trivial rfl;go_simp
         ·intro w L f hC hLi hLd hLn ⟨a,d74,_⟩;change _=_ at a d74;refine Step2.live (show wantedBy _ (f 74)=true by rw[d74];rfl) ?_;obtain⟨u0,u1,u2,u3,u4,u5,u6,u7,ufz⟩:=hC.facts;obtain⟨ev,ec,ef⟩:=evs f;refine relUpon_value ?_ hC trivial rfl;go_simp
         ·intro w L f hC hLi hLd hLn ⟨a,b,_⟩;change _=_ at a b;refine Step2.live rfl ?_;obtain⟨u0,u1,u2,u3,u4,u5,u6,u7,ufz⟩:=hC.facts;obtain⟨ev,ec,ef⟩:=evs f;refine relUpon_value ?_ hC trivial rfl;go_simp
         ·intro w L f hC hLi hLd hLn ⟨d,_⟩;refine Step2.live rfl ?_;exact relUpon_value (v:=f 88) rfl (hC) (trivial) d
         ·intro w L f hC hLi hLd hLn ⟨d0,d89,_⟩;change _=_ at d0 d89;refine Step2.live (show wantedBy _ (f 89)=true by rw[d89];rfl) ?_;exact relUpon_value (v:=f 0) rfl (hC) (trivial) d0
         iterate 3 (intro w L f hC hLi hLd hLn ⟨a,d89,_⟩;change _=_ at a d89;refine Step2.live (show wantedBy _ (f 89)=true by rw[d89];rfl) ?_;obtain⟨u0,u1,u2,u3,u4,u5,u6,u7,ufz⟩:=hC.facts;obtain⟨ev,ec,ef⟩:=evs f;refine relUpon_value ?_ hC trivial rfl;go_simp)
         ·intro w L f hC hLi hLd hLn ⟨d0,d89,_⟩;change _=_ at d0 d89;refine Step2.live (show wantedBy _ (f 89)=true by rw[d89];rfl) ?_;exact relUpon_value (v:=f 0) rfl (hC) (trivial) d0
         iterate 4 (intro w L f hC hLi hLd hLn ⟨a,d89,_⟩;change _=_ at a d89;refine Step2.live (show wantedBy _ (f 89)=true by rw[d89];rfl) ?_;obtain⟨u0,u1,u2,u3,u4,u5,u6,u7,ufz⟩:=hC.facts;obtain⟨ev,ec,ef⟩:=evs f;refine relUpon_value ?_ hC trivial rfl;go_simp)
         ·intro w L f hC hLi hLd hLn ⟨a,b,d89,_⟩;change _=_ at a b d89;refine Step2.live (show wantedBy _ (f 89)=true by rw[d89];rfl) ?_;obtain⟨u0,u1,u2,u3,u4,u5,u6,u7,ufz⟩:=hC.facts;obtain⟨ev,ec,ef⟩:=evs f;refine relUpon_value ?_ hC trivial rfl;go_simp
         ·intro w L f hC hLi hLd hLn ⟨a,d89,_⟩;change _=_ at a d89;refine Step2.live (show wantedBy _ (f 89)=true by rw[d89];rfl) ?_;obtain⟨u0,u1,u2,u3,u4,u5,u6,u7,ufz⟩:=hC.facts;obtain⟨ev,ec,ef⟩:=evs f;refine relUpon_value ?_ hC trivial rfl;go_simp
         ·intro w L f hC hLi hLd hLn ⟨a,d89,_⟩;change _=_ at a d89;refine Step2.live (show wantedBy _ (f 89)=true by rw[d89];rfl) ?_;obtain⟨u0,u1,u2⟩:=hC.tok hx1.out hA;obtain⟨ev,ec,ef⟩:=evs f;refine relUpon_value ?_ hC trivial rfl;go_simp
         ·intro w L f hC hLi hLd hLn ⟨a,d89,_⟩;change _=_ at a d89;refine Step2.live (show wantedBy _ (f 89)=true by rw[d89];rfl) ?_;obtain⟨u0,u1,u2,u3,u4,u5,u6,u7,ufz⟩:=hC.facts;obtain⟨ev,ec,ef⟩:=evs f;refine relUpon_value ?_ hC trivial rfl;go_simp
         ·intro w L f hC hLi hLd hLn ⟨d102,d89,_⟩;change _=_ at d102 d89;refine Step2.live (show wantedBy _ (f 89)=true by rw[d89];rfl) ?_;exact relUpon_value (v:=f 102) rfl (hC) (trivial) d102
         iterate 9 (intro w L f hC hLi hLd hLn ⟨_,d,_⟩;refine StepL2.dead (show wantedBy _ (f 103)=false by rw[show f 103=_ from d];rfl) (hC) ?_ (trivial);exact rfl)
         ·intro w L f hC hLi hLd hLn ⟨_,_,d,_⟩;refine StepL2.dead (show wantedBy _ (f 103)=false by rw[show f 103=_ from d];rfl) (hC) ?_ (trivial);exact rfl
         iterate 3 (intro w L f hC hLi hLd hLn ⟨_,d,_⟩;refine StepL2.dead (show wantedBy _ (f 103)=false by rw[show f 103=_ from d];rfl) (hC) ?_ (trivial);exact rfl)
         ·intro w L f hC hLi hLd hLn ⟨a,b,d89,_⟩;change _=_ at a b d89;refine Step2.live (show wantedBy _ (f 89)=true by rw[d89];rfl) ?_;obtain⟨u0,u1,u2,u3,u4,u5,u6,u7,ufz⟩:=hC.facts;obtain⟨ev,ec,ef⟩:=evs f;refine relUpon_value ?_ hC trivial rfl;go_simp
         ·intro w L f hC hLi hLd hLn ⟨a,b,_⟩;change _=_ at a b;refine Step2.live rfl ?_;obtain⟨u0,u1,u2,u3,u4,u5,u6,u7,ufz⟩:=hC.facts;obtain⟨ev,ec,ef⟩:=evs f;refine relUpon_value ?_ hC trivial rfl;go_simp
        intro x w' hC hV
        have e0:x 59= .bool nf:=(hV 59 _ rfl rfl).trans (by rw[hN2.out]);clear hV;simp only[framed];rw[e0];have hC:=zi hC;go_wp2_with fail
        go_meet
        case rel=>exact⟨rfl,hC⟩
       case neg=>
        have k1:((strV x1.t).toList== [61,61])=false:=by rw[strV_toList];simpa using q1
        by_cases q3:x1.t= [33,61]
        case pos=>
         have k3:((strV x1.t).toList== [33,61])=true:=by rw[strV_toList,q3];rfl
         have hN2:Hid (nf=true):=zi (by rw[hN,q3,q2];rfl);clear hN q2 q1 q3
         refine wp_region_tabL ((eqv (.pointer (some ⟨Z.g,0,none⟩)))::(eqv (.bool true))::(eqv (.bool true))::(eqv (.pointer (some ⟨Z.g,0,none⟩)))::(eqv (.pointer (some ⟨Z.g,0,none⟩)))::(eqv (.pointer (some ⟨Z.g,1,none⟩)))::(eqv (.int .i64 ((s.i:Int))))::(eqv (.int .i64 ((s.i:Int)+2)))::(eqv (.pointer (some ⟨Z.g,0,none⟩)))::(eqv (.pointer (some ⟨Z.g,0,none⟩)))::(eqv (.pointer (some ⟨Z.g,0,none⟩)))::(eqv (.slice (some ⟨b,off,none⟩) C.tk.length Z.c))::(eqv (.int .i64 ((C.tk.length:Int))))::(eqv (.bool true))::(eqv (.bool true))::(eqv (.bool true))::(eqv (.pointer (some ⟨Z.g,0,none⟩)))::(eqv (.pointer (some ⟨Z.g,0,none⟩)))::(eqv (.pointer (some ⟨Z.g,0,none⟩)))::(eqv (.slice (some ⟨b,off,none⟩) C.tk.length Z.c))::(eqv (.pointer (some ⟨Z.g,0,none⟩)))::(eqv (.pointer (some ⟨Z.g,0,none⟩)))::(eqv (.pointer (some ⟨Z.g,1,none⟩)))::(eqv (.int .i64 ((s.i:Int))))::(eqv (.int .i64 ((s.i:Int)+2)))::(eqv (.pointer (some ⟨b,off+(s.i+2)*3,none⟩)))::(eqv (.pointer (some ⟨b,off+(s.i+2)*3+1,none⟩)))::(eqv (.string (strV x2.t)))::(eqv (.bool true))::(eqv (.bool true))::(eqv (.bool true))::(eqv (.pointer (some ⟨Z.g,0,none⟩)))::(eqv (.pointer (some ⟨Z.g,0,none⟩)))::(eqv (.pointer (some ⟨Z.g,0,none⟩)))::(eqv (.slice (some ⟨b,off,none⟩) C.tk.length Z.c))::(eqv (.pointer (some ⟨Z.g,0,none⟩)))::(eqv (.pointer (some ⟨Z.g,0,none⟩)))::(eqv (.pointer (some ⟨Z.g,1,none⟩)))::(eqv (.int .i64 ((s.i:Int))))::(eqv (.int .i64 ((s.i:Int)+1)))::(eqv (.pointer (some ⟨b,off+(s.i+1)*3,none⟩)))::(eqv (.pointer (some ⟨b,off+(s.i+1)*3+1,none⟩)))::(eqv (.string (strV x1.t)))::(eqv (.bool false))::(eqv (.bool false))::(eqv (.pointer (some ⟨Z.g,0,none⟩)))::(eqv (.pointer (some ⟨Z.g,0,none⟩)))::(eqv (.pointer (some ⟨Z.g,0,none⟩)))::(eqv (.slice (some ⟨b,off,none⟩) C.tk.length Z.c))::(eqv (.pointer (some ⟨Z.g,0,none⟩)))::(eqv (.pointer (some ⟨Z.g,0,none⟩)))::(eqv (.pointer (some ⟨Z.g,1,none⟩)))::(eqv (.int .i64 ((s.i:Int))))::(eqv (.int .i64 ((s.i:Int)+1)))::(eqv (.pointer (some ⟨b,off+(s.i+1)*3,none⟩)))::(eqv (.pointer (some ⟨b,off+(s.i+1)*3+1,none⟩)))::(eqv (.string (strV x1.t)))::(eqv (.bool true))::(eqv (.bool true))::(eqv (.bool true))::[])
          ((rn1 0)::(rd1 59 0)::(rd1 60 1)::(rq1 0 61 2)::(rg1 62 3 61 2)::(rg1 63 4 61 2)::(rg1 64 5 61 2)::(rg1 65 6 61 2)::(rq1 0 61 2)::(rg1 67 8 61 2)::(rg1 68 9 61 2)::(rg1 69 10 61 2)::(rg1 70 11 61 2)::⟨[(66,some 7),(71,some 12),(61,some 2)],61,[]⟩::⟨[(61,some 2),(72,some 13)],0,[]⟩::(rd1 73 14)::(rq1 0 74 15)::(rg1 75 16 74 15)::(rg1 76 17 74 15)::(rg1 77 18 74 15)::(rq1 0 74 15)::(rg1 79 20 74 15)::(rg1 80 21 74 15)::(rg1 81 22 74 15)::(rg1 82 23 74 15)::⟨[(78,some 19),(83,some 24),(74,some 15)],74,[]⟩::(rg1 84 25 74 15)::(rg1 85 26 74 15)::(rg1 86 27 74 15)::⟨[(74,some 15),(87,some 28)],0,[]⟩::(rd1 88 29)::(rq1 0 89 30)::(rg1 90 31 89 30)::(rg1 91 32 89 30)::(rg1 92 33 89 30)::(rq1 0 89 30)::(rg1 94 35 89 30)::(rg1 95 36 89 30)::(rg1 96 37 89 30)::(rg1 97 38 89 30)::⟨[(93,some 34),(98,some 39),(89,some 30)],89,[]⟩::(rg1 99 40 89 30)::(rg1 100 41 89 30)::(rg1 101 42 89 30)::(rg1 102 43 89 30)::(rq1 0 103 44)::(rg1 104 45 103 44)::(rg1 105 46 103 44)::(rg1 106 47 103 44)::(rq1 0 103 44)::(rg1 108 49 103 44)::(rg1 109 50 103 44)::(rg1 110 51 103 44)::(rg1 111 52 103 44)::⟨[(107,some 48),(112,some 53),(103,some 44)],103,[]⟩::(rg1 113 54 103 44)::(rg1 114 55 103 44)::(rg1 115 56 103 44)::⟨[(103,some 44),(116,some 57),(89,some 30)],89,[]⟩::⟨[(89,some 30),(117,some 58)],0,[]⟩::[])
          (no::no::no::no::no::no::no::no::no::no::no::no::no::no::no::no::no::no::no::no::no::no::no::no::no::no::no::no::no::no::no::no::no::no::no::no::no::no::no::no::no::no::no::no::no::no::no::no::no::no::no::no::no::no::no::no::no::no::no::so 0::so 1::so 2::so 3::so 4::so 5::so 6::so 7::so 8::so 9::so 10::so 11::so 12::so 13::so 14::so 15::so 16::so 17::so 18::so 19::so 20::so 21::so 22::so 23::so 24::so 25::so 26::so 27::so 28::so 29::so 30::so 31::so 32::so 33::so 34::so 35::so 36::so 37::so 38::so 39::so 40::so 41::so 42::so 43::so 44::so 45::so 46::so 47::so 48::so 49::so 50::so 51::so 52::so 53::so 54::so 55::so 56::so 57::so 58::so 59::[])
          (fun _ w'=>Moved C Z s w w') (fun _ _ _=>True) ?mixK16tttft ?okK16tttft ?tabK16tttft ?frK16tttft ?inK16tttft ?keptK16tttft ?startK16tttft ?eachK16tttft ?finK16tttft
         case mixK16tttft|okK16tttft|tabK16tttft|frK16tttft=>kernel_rfl
         case inK16tttft=>rfl
         case keptK16tttft=>((repeat refine⟨fun _ _ _ _ _ _ _ _ _ _ _ h=>h,?_⟩);exact trivial)
         case startK16tttft=>exact hgo.out.below (Below.refl _ _).drew
         case eachK16tttft=>
          repeat' first|exact trivial|refine And.intro ?_ ?_
          ·intro w L f hC hLi hLd hLn ⟨d,_⟩;refine Step2.live rfl ?_;exact relUpon_value (v:=f 0) rfl (hC) (trivial) d
          ·intro w L f hC hLi hLd hLn ⟨a,_⟩;change _=_ at a;refine Step2.live rfl ?_;obtain⟨ev,ec,ef⟩:=evs f;refine relUpon_call (f:=64) (args:= #[.pointer (some ⟨Z.g,0,none⟩)]) (w:=w) (by go_simp) (named_from hC hn.out) ?_;rintro e w1 ⟨he,h1,-⟩;exact⟨_,he,h1,trivial,rfl⟩
          ·intro w L f hC hLi hLd hLn ⟨d,_⟩;refine Step2.live rfl ?_;exact relUpon_value (v:=f 60) rfl (hC) (trivial) d
          ·intro w L f hC hLi hLd hLn ⟨d0,d61,_⟩;change _=_ at d0 d61;refine Step2.live (show wantedBy _ (f 61)=true by rw[d61];rfl) ?_;exact relUpon_value (v:=f 0) rfl (hC) (trivial) d0
          iterate 4 (intro w L f hC hLi hLd hLn ⟨a,d61,_⟩;change _=_ at a d61;refine Step2.live (show wantedBy _ (f 61)=true by rw[d61];rfl) ?_;obtain⟨u0,u1,u2,u3,u4,u5,u6,u7,ufz⟩:=hC.facts;obtain⟨ev,ec,ef⟩:=evs f;refine relUpon_value ?_ hC trivial rfl;go_simp)
          ·intro w L f hC hLi hLd hLn ⟨d0,d61,_⟩;change _=_ at d0 d61;refine Step2.live (show wantedBy _ (f 61)=true by rw[d61];rfl) ?_;exact relUpon_value (v:=f 0) rfl (hC) (trivial) d0
          iterate 4 (intro w L f hC hLi hLd hLn ⟨a,d61,_⟩;change _=_ at a d61;refine Step2.live (show wantedBy _ (f 61)=true by rw[d61];rfl) ?_;obtain⟨u0,u1,u2,u3,u4,u5,u6,u7,ufz⟩:=hC.facts;obtain⟨ev,ec,ef⟩:=evs f;refine relUpon_value ?_ hC trivial rfl;go_simp)
          ·intro w L f hC hLi hLd hLn ⟨a,b,d61,_⟩;change _=_ at a b d61;refine Step2.live (show wantedBy _ (f 61)=true by rw[d61];rfl) ?_;obtain⟨u0,u1,u2,u3,u4,u5,u6,u7,ufz⟩:=hC.facts;obtain⟨ev,ec,ef⟩:=evs f;refine relUpon_value ?_ hC trivial rfl;go_simp
          ·intro w L f hC hLi hLd hLn ⟨a,b,_⟩;change _=_ at a b;refine Step2.live rfl ?_;obtain⟨u0,u1,u2,u3,u4,u5,u6,u7,ufz⟩:=hC.facts;obtain⟨ev,ec,ef⟩:=evs f;refine relUpon_value ?_ hC trivial rfl;go_simp
          ·intro w L f hC hLi hLd hLn ⟨d,_⟩;refine Step2.live rfl ?_;exact relUpon_value (v:=f 73) rfl (hC) (trivial) d
          ·intro w L f hC hLi hLd hLn ⟨d0,d74,_⟩;change _=_ at d0 d74;refine Step2.live (show wantedBy _ (f 74)=true by rw[d74];rfl) ?_;exact relUpon_value (v:=f 0) rfl (hC) (trivial) d0
          iterate 3 (intro w L f hC hLi hLd hLn ⟨a,d74,_⟩;change _=_ at a d74;refine Step2.live (show wantedBy _ (f 74)=true by rw[d74];rfl) ?_;obtain⟨u0,u1,u2,u3,u4,u5,u6,u7,ufz⟩:=hC.facts;obtain⟨ev,ec,ef⟩:=evs f;refine relUpon_value ?_ hC trivial rfl;go_simp)
          ·intro w L f hC hLi hLd hLn ⟨d0,d74,_⟩;change _=_ at d0 d74;refine Step2.live (show wantedBy _ (f 74)=true by rw[d74];rfl) ?_;exact relUpon_value (v:=f 0) rfl (hC) (trivial) d0
          iterate 4 (intro w L f hC hLi hLd hLn ⟨a,d74,_⟩;change _=_ at a d74;refine Step2.live (show wantedBy _ (f 74)=true by rw[d74];rfl) ?_;obtain⟨u0,u1,u2,u3,u4,u5,u6,u7,ufz⟩:=hC.facts;obtain⟨ev,ec,ef⟩:=evs f;refine relUpon_value ?_ hC trivial rfl;go_simp)
          ·intro w L f hC hLi hLd hLn ⟨a,b,d74,_⟩;change _=_ at a b d74;refine Step2.live (show wantedBy _ (f 74)=true by rw[d74];rfl) ?_;obtain⟨u0,u1,u2,u3,u4,u5,u6,u7,ufz⟩:=hC.facts;obtain⟨ev,ec,ef⟩:=evs f;refine relUpon_value ?_ hC trivial rfl;go_simp
          ·intro w L f hC hLi hLd hLn ⟨a,d74,_⟩;change _=_ at a d74;refine Step2.live (show wantedBy _ (f 74)=true by rw[d74];rfl) ?_;obtain⟨u0,u1,u2,u3,u4,u5,u6,u7,ufz⟩:=hC.facts;obtain⟨ev,ec,ef⟩:=evs f;refine relUpon_value ?_ hC trivial rfl;go_simp
          ·intro w L f hC hLi hLd hLn ⟨a,d74,_⟩;change _=_ at a d74;refine Step2.live (show wantedBy _ (f 74)=true by rw[d74];rfl) ?_;obtain⟨u0,u1,u2⟩:=hC.tok hx2.out hA;obtain⟨ev,ec,ef⟩:=evs f;refine relUpon_value ?_ hC trivial rfl;go_simp
          ·intro w L f hC hLi hLd hLn ⟨a,d74,_⟩;change _=_ at a d74;refine Step2.live (show wantedBy _ (f 74)=true by rw[d74];rfl) ?_;obtain⟨u0,u1,u2,u3,u4,u5,u6,u7,ufz⟩:=hC.facts;obtain⟨ev,ec,ef⟩:=evs f;refine relUpon_value ?_ hC trivial rfl;go_simp
          ·intro w L f hC hLi hLd hLn ⟨a,b,_⟩;change _=_ at a b;refine Step2.live rfl ?_;obtain⟨u0,u1,u2,u3,u4,u5,u6,u7,ufz⟩:=hC.facts;obtain⟨ev,ec,ef⟩:=evs f;refine relUpon_value ?_ hC trivial rfl;go_simp
          ·intro w L f hC hLi hLd hLn ⟨d,_⟩;refine Step2.live rfl ?_;exact relUpon_value (v:=f 88) rfl (hC) (trivial) d
          ·intro w L f hC hLi hLd hLn ⟨d0,d89,_⟩;change _=_ at d0 d89;refine Step2.live (show wantedBy _ (f 89)=true by rw[d89];rfl) ?_;exact relUpon_value (v:=f 0) rfl (hC) (trivial) d0
          iterate 3 (intro w L f hC hLi hLd hLn ⟨a,d89,_⟩;change _=_ at a d89;refine Step2.live (show wantedBy _ (f 89)=true by rw[d89];rfl) ?_;obtain⟨u0,u1,u2,u3,u4,u5,u6,u7,ufz⟩:=hC.facts;obtain⟨ev,ec,ef⟩:=evs f;refine relUpon_value ?_ hC trivial rfl;go_simp)
          ·intro w L f hC hLi hLd hLn ⟨d0,d89,_⟩;change _=_ at d0 d89;refine Step2.live (show wantedBy _ (f 89)=true by rw[d89];rfl) ?_;exact relUpon_value (v:=f 0) rfl (hC) (trivial) d0
          iterate 4 (intro w L f hC hLi hLd hLn ⟨a,d89,_⟩;change _=_ at a d89;refine Step2.live (show wantedBy _ (f 89)=true by rw[d89];rfl) ?_;obtain⟨u0,u1,u2,u3,u4,u5,u6,u7,ufz⟩:=hC.facts;obtain⟨ev,ec,ef⟩:=evs f;refine relUpon_value ?_ hC trivial rfl;go_simp)
          ·intro w L f hC hLi hLd hLn ⟨a,b,d89,_⟩;change _=_ at a b d89;refine Step2.live (show wantedBy _ (f 89)=true by rw[d89];rfl) ?_;obtain⟨u0,u1,u2,u3,u4,u5,u6,u7,ufz⟩:=hC.facts;obtain⟨ev,ec,ef⟩:=evs f;refine relUpon_value ?_ hC trivial rfl;go_simp
          ·intro w L f hC hLi hLd hLn ⟨a,d89,_⟩;change _=_ at a d89;refine Step2.live (show wantedBy _ (f 89)=true by rw[d89];rfl) ?_;obtain⟨u0,u1,u2,u3,u4,u5,u6,u7,ufz⟩:=hC.facts;obtain⟨ev,ec,ef⟩:=evs f;refine relUpon_value ?_ hC trivial rfl;go_simp
          ·intro w L f hC hLi hLd hLn ⟨a,d89,_⟩;change _=_ at a d89;refine Step2.live (show wantedBy _ (f 89)=true by rw[d89];rfl) ?_;obtain⟨u0,u1,u2⟩:=hC.tok hx1.out hA;obtain⟨ev,ec,ef⟩:=evs f;refine relUpon_value ?_ hC trivial rfl;go_simp
          ·intro w L f hC hLi hLd hLn ⟨a,d89,_⟩;change _=_ at a d89;refine Step2.live (show wantedBy _ (f 89)=true by rw[d89];rfl) ?_;obtain⟨u0,u1,u2,u3,u4,u5,u6,u7,ufz⟩:=hC.facts;obtain⟨ev,ec,ef⟩:=evs f;refine relUpon_value ?_ hC trivial rfl;go_simp
          ·intro w L f hC hLi hLd hLn ⟨d102,d89,_⟩;change _=_ at d102 d89;refine Step2.live (show wantedBy _ (f 89)=true by rw[d89];rfl) ?_;exact relUpon_value (v:=f 102) rfl (hC) (trivial) d102
          ·intro w L f hC hLi hLd hLn ⟨d0,d103,_⟩;change _=_ at d0 d103;refine Step2.live (show wantedBy _ (f 103)=true by rw[d103];rfl) ?_;exact relUpon_value (v:=f 0) rfl (hC) (trivial) d0
          iterate 3 (intro w L f hC hLi hLd hLn ⟨a,d103,_⟩;change _=_ at a d103;refine Step2.live (show wantedBy _ (f 103)=true by rw[d103];rfl) ?_;obtain⟨u0,u1,u2,u3,u4,u5,u6,u7,ufz⟩:=hC.facts;obtain⟨ev,ec,ef⟩:=evs f;refine relUpon_value ?_ hC trivial rfl;go_simp)
          ·intro w L f hC hLi hLd hLn ⟨d0,d103,_⟩;change _=_ at d0 d103;refine Step2.live (show wantedBy _ (f 103)=true by rw[d103];rfl) ?_;exact relUpon_value (v:=f 0) rfl (hC) (trivial) d0
          iterate 4 (intro w L f hC hLi hLd hLn ⟨a,d103,_⟩;change _=_ at a d103;refine Step2.live (show wantedBy _ (f 103)=true by rw[d103];rfl) ?_;obtain⟨u0,u1,u2,u3,u4,u5,u6,u7,ufz⟩:=hC.facts;obtain⟨ev,ec,ef⟩:=evs f;refine relUpon_value ?_ hC trivial rfl;go_simp)
          ·intro w L f hC hLi hLd hLn ⟨a,b,d103,_⟩;change _=_ at a b d103;refine Step2.live (show wantedBy _ (f 103)=true by rw[d103];rfl) ?_;obtain⟨u0,u1,u2,u3,u4,u5,u6,u7,ufz⟩:=hC.facts;obtain⟨ev,ec,ef⟩:=evs f;refine relUpon_value ?_ hC trivial rfl;go_simp
          ·intro w L f hC hLi hLd hLn ⟨a,d103,_⟩;change _=_ at a d103;refine Step2.live (show wantedBy _ (f 103)=true by rw[d103];rfl) ?_;obtain⟨u0,u1,u2,u3,u4,u5,u6,u7,ufz⟩:=hC.facts;obtain⟨ev,ec,ef⟩:=evs f;refine relUpon_value ?_ hC trivial rfl;go_simp
          ·intro w L f hC hLi hLd hLn ⟨a,d103,_⟩;change _=_ at a d103;refine Step2.live (show wantedBy _ (f 103)=true by rw[d103];rfl) ?_;obtain⟨u0,u1,u2⟩:=hC.tok hx1.out hA;obtain⟨ev,ec,ef⟩:=evs f;refine relUpon_value ?_ hC trivial rfl;go_simp
          ·intro w L f hC hLi hLd hLn ⟨a,d103,_⟩;change _=_ at a d103;refine Step2.live (show wantedBy _ (f 103)=true by rw[d103];rfl) ?_;obtain⟨u0,u1,u2,u3,u4,u5,u6,u7,ufz⟩:=hC.facts;obtain⟨ev,ec,ef⟩:=evs f;refine relUpon_value ?_ hC trivial rfl;go_simp
          ·intro w L f hC hLi hLd hLn ⟨a,b,d89,_⟩;change _=_ at a b d89;refine Step2.live (show wantedBy _ (f 89)=true by rw[d89];rfl) ?_;obtain⟨u0,u1,u2,u3,u4,u5,u6,u7,ufz⟩:=hC.facts;obtain⟨ev,ec,ef⟩:=evs f;refine relUpon_value ?_ hC trivial rfl;go_simp
          ·intro w L f hC hLi hLd hLn ⟨a,b,_⟩;change _=_ at a b;refine Step2.live rfl ?_;obtain⟨u0,u1,u2,u3,u4,u5,u6,u7,ufz⟩:=hC.facts;obtain⟨ev,ec,ef⟩:=evs f;refine relUpon_value ?_ hC trivial rfl;go_simp
         intro x w' hC hV
         have e0:x 59= .bool nf:=(hV 59 _ rfl rfl).trans (by rw[hN2.out]);clear hV;simp only[framed];rw[e0];have hC:=zi hC;go_wp2_with fail
         go_meet
         case rel=>exact⟨rfl,hC⟩
        case neg=>
         have k3:((strV x1.t).toList== [33,61])=false:=by rw[strV_toList];simpa using q3
         have hN2:Hid (nf=false):=zi (by rw[hN,show(x1.t== [61,61])=false by simpa using q1,show(x1.t== [33,61])=false by simpa using q3];simp);clear hN q2 q1 q3
         refine wp_region_tabL ((eqv (.pointer (some ⟨Z.g,0,none⟩)))::(eqv (.bool true))::(eqv (.bool true))::(eqv (.pointer (some ⟨Z.g,0,none⟩)))::(eqv (.pointer (some ⟨Z.g,0,none⟩)))::(eqv (.pointer (some ⟨Z.g,1,none⟩)))::(eqv (.int .i64 ((s.i:Int))))::(eqv (.int .i64 ((s.i:Int)+2)))::(eqv (.pointer (some ⟨Z.g,0,none⟩)))::(eqv (.pointer (some ⟨Z.g,0,none⟩)))::(eqv (.pointer (some ⟨Z.g,0,none⟩)))::(eqv (.slice (some ⟨b,off,none⟩) C.tk.length Z.c))::(eqv (.int .i64 ((C.tk.length:Int))))::(eqv (.bool true))::(eqv (.bool true))::(eqv (.bool true))::(eqv (.pointer (some ⟨Z.g,0,none⟩)))::(eqv (.pointer (some ⟨Z.g,0,none⟩)))::(eqv (.pointer (some ⟨Z.g,0,none⟩)))::(eqv (.slice (some ⟨b,off,none⟩) C.tk.length Z.c))::(eqv (.pointer (some ⟨Z.g,0,none⟩)))::(eqv (.pointer (some ⟨Z.g,0,none⟩)))::(eqv (.pointer (some ⟨Z.g,1,none⟩)))::(eqv (.int .i64 ((s.i:Int))))::(eqv (.int .i64 ((s.i:Int)+2)))::(eqv (.pointer (some ⟨b,off+(s.i+2)*3,none⟩)))::(eqv (.pointer (some ⟨b,off+(s.i+2)*3+1,none⟩)))::(eqv (.string (strV x2.t)))::(eqv (.bool true))::(eqv (.bool true))::(eqv (.bool true))::(eqv (.pointer (some ⟨Z.g,0,none⟩)))::(eqv (.pointer (some ⟨Z.g,0,none⟩)))::(eqv (.pointer (some ⟨Z.g,0,none⟩)))::(eqv (.slice (some ⟨b,off,none⟩) C.tk.length Z.c))::(eqv (.pointer (some ⟨Z.g,0,none⟩)))::(eqv (.pointer (some ⟨Z.g,0,none⟩)))::(eqv (.pointer (some ⟨Z.g,1,none⟩)))::(eqv (.int .i64 ((s.i:Int))))::(eqv (.int .i64 ((s.i:Int)+1)))::(eqv (.pointer (some ⟨b,off+(s.i+1)*3,none⟩)))::(eqv (.pointer (some ⟨b,off+(s.i+1)*3+1,none⟩)))::(eqv (.string (strV x1.t)))::(eqv (.bool false))::(eqv (.bool false))::(eqv (.pointer (some ⟨Z.g,0,none⟩)))::(eqv (.pointer (some ⟨Z.g,0,none⟩)))::(eqv (.pointer (some ⟨Z.g,0,none⟩)))::(eqv (.slice (some ⟨b,off,none⟩) C.tk.length Z.c))::(eqv (.pointer (some ⟨Z.g,0,none⟩)))::(eqv (.pointer (some ⟨Z.g,0,none⟩)))::(eqv (.pointer (some ⟨Z.g,1,none⟩)))::(eqv (.int .i64 ((s.i:Int))))::(eqv (.int .i64 ((s.i:Int)+1)))::(eqv (.pointer (some ⟨b,off+(s.i+1)*3,none⟩)))::(eqv (.pointer (some ⟨b,off+(s.i+1)*3+1,none⟩)))::(eqv (.string (strV x1.t)))::(eqv (.bool false))::(eqv (.bool false))::(eqv (.bool false))::[])
          ((rn1 0)::(rd1 59 0)::(rd1 60 1)::(rq1 0 61 2)::(rg1 62 3 61 2)::(rg1 63 4 61 2)::(rg1 64 5 61 2)::(rg1 65 6 61 2)::(rq1 0 61 2)::(rg1 67 8 61 2)::(rg1 68 9 61 2)::(rg1 69 10 61 2)::(rg1 70 11 61 2)::⟨[(66,some 7),(71,some 12),(61,some 2)],61,[]⟩::⟨[(61,some 2),(72,some 13)],0,[]⟩::(rd1 73 14)::(rq1 0 74 15)::(rg1 75 16 74 15)::(rg1 76 17 74 15)::(rg1 77 18 74 15)::(rq1 0 74 15)::(rg1 79 20 74 15)::(rg1 80 21 74 15)::(rg1 81 22 74 15)::(rg1 82 23 74 15)::⟨[(78,some 19),(83,some 24),(74,some 15)],74,[]⟩::(rg1 84 25 74 15)::(rg1 85 26 74 15)::(rg1 86 27 74 15)::⟨[(74,some 15),(87,some 28)],0,[]⟩::(rd1 88 29)::(rq1 0 89 30)::(rg1 90 31 89 30)::(rg1 91 32 89 30)::(rg1 92 33 89 30)::(rq1 0 89 30)::(rg1 94 35 89 30)::(rg1 95 36 89 30)::(rg1 96 37 89 30)::(rg1 97 38 89 30)::⟨[(93,some 34),(98,some 39),(89,some 30)],89,[]⟩::(rg1 99 40 89 30)::(rg1 100 41 89 30)::(rg1 101 42 89 30)::(rg1 102 43 89 30)::(rq1 0 103 44)::(rg1 104 45 103 44)::(rg1 105 46 103 44)::(rg1 106 47 103 44)::(rq1 0 103 44)::(rg1 108 49 103 44)::(rg1 109 50 103 44)::(rg1 110 51 103 44)::(rg1 111 52 103 44)::⟨[(107,some 48),(112,some 53),(103,some 44)],103,[]⟩::(rg1 113 54 103 44)::(rg1 114 55 103 44)::(rg1 115 56 103 44)::⟨[(103,some 44),(116,some 57),(89,some 30)],89,[]⟩::⟨[(89,some 30),(117,some 58)],0,[]⟩::[])
          (no::no::no::no::no::no::no::no::no::no::no::no::no::no::no::no::no::no::no::no::no::no::no::no::no::no::no::no::no::no::no::no::no::no::no::no::no::no::no::no::no::no::no::no::no::no::no::no::no::no::no::no::no::no::no::no::no::no::no::so 0::so 1::so 2::so 3::so 4::so 5::so 6::so 7::so 8::so 9::so 10::so 11::so 12::so 13::so 14::so 15::so 16::so 17::so 18::so 19::so 20::so 21::so 22::so 23::so 24::so 25::so 26::so 27::so 28::so 29::so 30::so 31::so 32::so 33::so 34::so 35::so 36::so 37::so 38::so 39::so 40::so 41::so 42::so 43::so 44::so 45::so 46::so 47::so 48::so 49::so 50::so 51::so 52::so 53::so 54::so 55::so 56::so 57::so 58::so 59::[])
          (fun _ w'=>Moved C Z s w w') (fun _ _ _=>True) ?mixK16tttff ?okK16tttff ?tabK16tttff ?frK16tttff ?inK16tttff ?keptK16tttff ?startK16tttff ?eachK16tttff ?finK16tttff
         case mixK16tttff|okK16tttff|tabK16tttff|frK16tttff=>kernel_rfl
         case inK16tttff=>rfl
         case keptK16tttff=>((repeat refine⟨fun _ _ _ _ _ _ _ _ _ _ _ h=>h,?_⟩);exact trivial)
         case startK16tttff=>exact hgo.out.below (Below.refl _ _).drew
         case eachK16tttff=>
          repeat' first|exact trivial|refine And.intro ?_ ?_
          ·intro w L f hC hLi hLd hLn ⟨d,_⟩;refine Step2.live rfl ?_;exact relUpon_value (v:=f 0) rfl (hC) (trivial) d
          ·intro w L f hC hLi hLd hLn ⟨a,_⟩;change _=_ at a;refine Step2.live rfl ?_;obtain⟨ev,ec,ef⟩:=evs f;refine relUpon_call (f:=64) (args:= #[.pointer (some ⟨Z.g,0,none⟩)]) (w:=w) (by go_simp) (named_from hC hn.out) ?_;rintro e w1 ⟨he,h1,-⟩;exact⟨_,he,h1,trivial,rfl⟩
          ·intro w L f hC hLi hLd hLn ⟨d,_⟩;refine Step2.live rfl ?_;exact relUpon_value (v:=f 60) rfl (hC) (trivial) d
          ·intro w L f hC hLi hLd hLn ⟨d0,d61,_⟩;change _=_ at d0 d61;refine Step2.live (show wantedBy _ (f 61)=true by rw[d61];rfl) ?_;exact relUpon_value (v:=f 0) rfl (hC) (trivial) d0
          iterate 4 (intro w L f hC hLi hLd hLn ⟨a,d61,_⟩;change _=_ at a d61;refine Step2.live (show wantedBy _ (f 61)=true by rw[d61];rfl) ?_;obtain⟨u0,u1,u2,u3,u4,u5,u6,u7,ufz⟩:=hC.facts;obtain⟨ev,ec,ef⟩:=evs f;refine relUpon_value ?_ hC trivial rfl;go_simp)
          ·intro w L f hC hLi hLd hLn ⟨d0,d61,_⟩;change _=_ at d0 d61;refine Step2.live (show wantedBy _ (f 61)=true by rw[d61];rfl) ?_;exact relUpon_value (v:=f 0) rfl (hC) (trivial) d0
          iterate 4 (intro w L f hC hLi hLd hLn ⟨a,d61,_⟩;change _=_ at a d61;refine Step2.live (show wantedBy _ (f 61)=true by rw[d61];rfl) ?_;obtain⟨u0,u1,u2,u3,u4,u5,u6,u7,ufz⟩:=hC.facts;obtain⟨ev,ec,ef⟩:=evs f;refine relUpon_value ?_ hC trivial rfl;go_simp)
          ·intro w L f hC hLi hLd hLn ⟨a,b,d61,_⟩;change _=_ at a b d61;refine Step2.live (show wantedBy _ (f 61)=true by rw[d61];rfl) ?_;obtain⟨u0,u1,u2,u3,u4,u5,u6,u7,ufz⟩:=hC.facts;obtain⟨ev,ec,ef⟩:=evs f;refine relUpon_value ?_ hC trivial rfl;go_simp
          ·intro w L f hC hLi hLd hLn ⟨a,b,_⟩;change _=_ at a b;refine Step2.live rfl ?_;obtain⟨u0,u1,u2,u3,u4,u5,u6,u7,ufz⟩:=hC.facts;obtain⟨ev,ec,ef⟩:=evs f;refine relUpon_value ?_ hC trivial rfl;go_simp
          ·intro w L f hC hLi hLd hLn ⟨d,_⟩;refine Step2.live rfl ?_;exact relUpon_value (v:=f 73) rfl (hC) (trivial) d
          ·intro w L f hC hLi hLd hLn ⟨d0,d74,_⟩;change _=_ at d0 d74;refine Step2.live (show wantedBy _ (f 74)=true by rw[d74];rfl) ?_;exact relUpon_value (v:=f 0) rfl (hC) (trivial) d0
          iterate 3 (intro w L f hC hLi hLd hLn ⟨a,d74,_⟩;change _=_ at a d74;refine Step2.live (show wantedBy _ (f 74)=true by rw[d74];rfl) ?_;obtain⟨u0,u1,u2,u3,u4,u5,u6,u7,ufz⟩:=hC.facts;obtain⟨ev,ec,ef⟩:=evs f;refine relUpon_value ?_ hC trivial rfl;go_simp)
          ·intro w L f hC hLi hLd hLn ⟨d0,d74,_⟩;change _=_ at d0 d74;refine Step2.live (show wantedBy _ (f 74)=true by rw[d74];rfl) ?_;exact relUpon_value (v:=f 0) rfl (hC) (trivial) d0
          iterate 4 (intro w L f hC hLi hLd hLn ⟨a,d74,_⟩;change _=_ at a d74;refine Step2.live (show wantedBy _ (f 74)=true by rw[d74];rfl) ?_;obtain⟨u0,u1,u2,u3,u4,u5,u6,u7,ufz⟩:=hC.facts;obtain⟨ev,ec,ef⟩:=evs f;refine relUpon_value ?_ hC trivial rfl;go_simp)
          ·intro w L f hC hLi hLd hLn ⟨a,b,d74,_⟩;change _=_ at a b d74;refine Step2.live (show wantedBy _ (f 74)=true by rw[d74];rfl) ?_;obtain⟨u0,u1,u2,u3,u4,u5,u6,u7,ufz⟩:=hC.facts;obtain⟨ev,ec,ef⟩:=evs f;refine relUpon_value ?_ hC trivial rfl;go_simp
          ·intro w L f hC hLi hLd hLn ⟨a,d74,_⟩;change _=_ at a d74;refine Step2.live (show wantedBy _ (f 74)=true by rw[d74];rfl) ?_;obtain⟨u0,u1,u2,u3,u4,u5,u6,u7,ufz⟩:=hC.facts;obtain⟨ev,ec,ef⟩:=evs f;refine relUpon_value ?_ hC trivial rfl;go_simp
          ·intro w L f hC hLi hLd hLn ⟨a,d74,_⟩;change _=_ at a d74;refine Step2.live (show wantedBy _ (f 74)=true by rw[d74];rfl) ?_;obtain⟨u0,u1,u2⟩:=hC.tok hx2.out hA;obtain⟨ev,ec,ef⟩:=evs f;refine relUpon_value ?_ hC trivial rfl;go_simp
          ·intro w L f hC hLi hLd hLn ⟨a,d74,_⟩;change _=_ at a d74;refine Step2.live (show wantedBy _ (f 74)=true by rw[d74];rfl) ?_;obtain⟨u0,u1,u2,u3,u4,u5,u6,u7,ufz⟩:=hC.facts;obtain⟨ev,ec,ef⟩:=evs f;refine relUpon_value ?_ hC trivial rfl;go_simp
          ·intro w L f hC hLi hLd hLn ⟨a,b,_⟩;change _=_ at a b;refine Step2.live rfl ?_;obtain⟨u0,u1,u2,u3,u4,u5,u6,u7,ufz⟩:=hC.facts;obtain⟨ev,ec,ef⟩:=evs f;refine relUpon_value ?_ hC trivial rfl;go_simp
          ·intro w L f hC hLi hLd hLn ⟨d,_⟩;refine Step2.live rfl ?_;exact relUpon_value (v:=f 88) rfl (hC) (trivial) d
          ·intro w L f hC hLi hLd hLn ⟨d0,d89,_⟩;change _=_ at d0 d89;refine Step2.live (show wantedBy _ (f 89)=true by rw[d89];rfl) ?_;exact relUpon_value (v:=f 0) rfl (hC) (trivial) d0
          iterate 3 (intro w L f hC hLi hLd hLn ⟨a,d89,_⟩;change _=_ at a d89;refine Step2.live (show wantedBy _ (f 89)=true by rw[d89];rfl) ?_;obtain⟨u0,u1,u2,u3,u4,u5,u6,u7,ufz⟩:=hC.facts;obtain⟨ev,ec,ef⟩:=evs f;refine relUpon_value ?_ hC trivial rfl;go_simp)
          ·intro w L f hC hLi hLd hLn ⟨d0,d89,_⟩;change _=_ at d0 d89;refine Step2.live (show wantedBy _ (f 89)=true by rw[d89];rfl) ?_;exact relUpon_value (v:=f 0) rfl (hC) (trivial) d0
          iterate 4 (intro w L f hC hLi hLd hLn ⟨a,d89,_⟩;change _=_ at a d89;refine Step2.live (show wantedBy _ (f 89)=true by rw[d89];rfl) ?_;obtain⟨u0,u1,u2,u3,u4,u5,u6,u7,ufz⟩:=hC.facts;obtain⟨ev,ec,ef⟩:=evs f;refine relUpon_value ?_ hC trivial rfl;go_simp)
          ·intro w L f hC hLi hLd hLn ⟨a,b,d89,_⟩;change _=_ at a b d89;refine Step2.live (show wantedBy _ (f 89)=true by rw[d89];rfl) ?_;obtain⟨u0,u1,u2,u3,u4,u5,u6,u7,ufz⟩:=hC.facts;obtain⟨ev,ec,ef⟩:=evs f;refine relUpon_value ?_ hC trivial rfl;go_simp
          ·intro w L f hC hLi hLd hLn ⟨a,d89,_⟩;change _=_ at a d89;refine Step2.live (show wantedBy _ (f 89)=true by rw[d89];rfl) ?_;obtain⟨u0,u1,u2,u3,u4,u5,u6,u7,ufz⟩:=hC.facts;obtain⟨ev,ec,ef⟩:=evs f;refine relUpon_value ?_ hC trivial rfl;go_simp
          ·intro w L f hC hLi hLd hLn ⟨a,d89,_⟩;change _=_ at a d89;refine Step2.live (show wantedBy _ (f 89)=true by rw[d89];rfl) ?_;obtain⟨u0,u1,u2⟩:=hC.tok hx1.out hA;obtain⟨ev,ec,ef⟩:=evs f;refine relUpon_value ?_ hC trivial rfl;go_simp
          ·intro w L f hC hLi hLd hLn ⟨a,d89,_⟩;change _=_ at a d89;refine Step2.live (show wantedBy _ (f 89)=true by rw[d89];rfl) ?_;obtain⟨u0,u1,u2,u3,u4,u5,u6,u7,ufz⟩:=hC.facts;obtain⟨ev,ec,ef⟩:=evs f;refine relUpon_value ?_ hC trivial rfl;go_simp
          ·intro w L f hC hLi hLd hLn ⟨d102,d89,_⟩;change _=_ at d102 d89;refine Step2.live (show wantedBy _ (f 89)=true by rw[d89];rfl) ?_;exact relUpon_value (v:=f 102) rfl (hC) (trivial) d102
          ·intro w L f hC hLi hLd hLn ⟨d0,d103,_⟩;change _=_ at d0 d103;refine Step2.live (show wantedBy _ (f 103)=true by rw[d103];rfl) ?_;exact relUpon_value (v:=f 0) rfl (hC) (trivial) d0
          iterate 3 (intro w L f hC hLi hLd hLn ⟨a,d103,_⟩;change _=_ at a d103;refine Step2.live (show wantedBy _ (f 103)=true by rw[d103];rfl) ?_;obtain⟨u0,u1,u2,u3,u4,u5,u6,u7,ufz⟩:=hC.facts;obtain⟨ev,ec,ef⟩:=evs f;refine relUpon_value ?_ hC trivial rfl;go_simp)
          ·intro w L f hC hLi hLd hLn ⟨d0,d103,_⟩;change _=_ at d0 d103;refine Step2.live (show wantedBy _ (f 103)=true by rw[d103];rfl) ?_;exact relUpon_value (v:=f 0) rfl (hC) (trivial) d0
          iterate 4 (intro w L f hC hLi hLd hLn ⟨a,d103,_⟩;change _=_ at a d103;refine Step2.live (show wantedBy _ (f 103)=true by rw[d103];rfl) ?_;obtain⟨u0,u1,u2,u3,u4,u5,u6,u7,ufz⟩:=hC.facts;obtain⟨ev,ec,ef⟩:=evs f;refine relUpon_value ?_ hC trivial rfl;go_simp)
          ·intro w L f hC hLi hLd hLn ⟨a,b,d103,_⟩;change _=_ at a b d103;refine Step2.live (show wantedBy _ (f 103)=true by rw[d103];rfl) ?_;obtain⟨u0,u1,u2,u3,u4,u5,u6,u7,ufz⟩:=hC.facts;obtain⟨ev,ec,ef⟩:=evs f;refine relUpon_value ?_ hC trivial rfl;go_simp
          ·intro w L f hC hLi hLd hLn ⟨a,d103,_⟩;change _=_ at a d103;refine Step2.live (show wantedBy _ (f 103)=true by rw[d103];rfl) ?_;obtain⟨u0,u1,u2,u3,u4,u5,u6,u7,ufz⟩:=hC.facts;obtain⟨ev,ec,ef⟩:=evs f;refine relUpon_value ?_ hC trivial rfl;go_simp
          ·intro w L f hC hLi hLd hLn ⟨a,d103,_⟩;change _=_ at a d103;refine Step2.live (show wantedBy _ (f 103)=true by rw[d103];rfl) ?_;obtain⟨u0,u1,u2⟩:=hC.tok hx1.out hA;obtain⟨ev,ec,ef⟩:=evs f;refine relUpon_value ?_ hC trivial rfl;go_simp
          ·intro w L f hC hLi hLd hLn ⟨a,d103,_⟩;change _=_ at a d103;refine Step2.live (show wantedBy _ (f 103)=true by rw[d103];rfl) ?_;obtain⟨u0,u1,u2,u3,u4,u5,u6,u7,ufz⟩:=hC.facts;obtain⟨ev,ec,ef⟩:=evs f;refine relUpon_value ?_ hC trivial rfl;go_simp
          ·intro w L f hC hLi hLd hLn ⟨a,b,d89,_⟩;change _=_ at a b d89;refine Step2.live (show wantedBy _ (f 89)=true by rw[d89];rfl) ?_;obtain⟨u0,u1,u2,u3,u4,u5,u6,u7,ufz⟩:=hC.facts;obtain⟨ev,ec,ef⟩:=evs f;refine relUpon_value ?_ hC trivial rfl;go_simp
          ·intro w L f hC hLi hLd hLn ⟨a,b,_⟩;change _=_ at a b;refine Step2.live rfl ?_;obtain⟨u0,u1,u2,u3,u4,u5,u6,u7,ufz⟩:=hC.facts;obtain⟨ev,ec,ef⟩:=evs f;refine relUpon_value ?_ hC trivial rfl;go_simp
         intro x w' hC hV
         have e0:x 59= .bool nf:=(hV 59 _ rfl rfl).trans (by rw[hN2.out]);clear hV;simp only[framed];rw[e0];have hC:=zi hC;go_wp2_with fail
         go_meet
         case rel=>exact⟨rfl,hC⟩
   case rest=>
    obtain⟨rfl,h3⟩:=hcut;clear hgo
    cases hnv:nf with
    |true=>
     rw[hnv]at hNull hnf;have hNv:=hNull.out;simp only[Bool.true_eq,Bool.and_eq_true,decide_eq_true_eq]at hNv;obtain⟨hn,hi2,q2,q1⟩:=hNv;obtain⟨x1,hx1⟩:∃x,C.tk[s.i+1]? =some x:=⟨_,List.getElem?_eq_getElem (by omega)⟩;obtain⟨x0,hx0⟩:∃x,C.tk[s.i]? =some x:=⟨_,List.getElem?_eq_getElem (by omega)⟩;obtain⟨b,off,hA,hbg,_⟩:=hTok.out.tok (k:=s.i) (by omega)
     have hT0:txtAt C s.i=x0.t:=by unfold txtAt;rw[hx0]
     have hT1:txtAt C (s.i+1)=x1.t:=by unfold txtAt;rw[hx1]
     have hl0:=(hTok.out.fit.txt x0 (List.mem_of_getElem? hx0)).1
     have hF:R=((if x1.t== [33,61]then .mk 8 .nil .nil (.mk 9 .nil .nil .nil .nil x0.t) .nil []else .mk 9 .nil .nil .nil .nil x0.t),{s with i:=s.i+3}):=by rw[hR.out];unfold notF;rw[h33.out,h40.out,←hnf.out,hT0,hT1];rfl
     have hok3:PS.Ok C {s with i:=s.i+3}:=⟨by simp only;omega,hTok.out.ok.n,hTok.out.ok.at_,hTok.out.ok.e,hTok.out.ok.deep⟩;replace hok3:=zi hok3;replace hx1:=zi hx1;replace hx0:=zi hx0;replace hn:=zi hn;replace h3:=zi h3.out;clear hNull hnf hnv hT0 hT1 q1 q2 hR hTok;have hw2:=i64_next (i:=s.i) (by omega);have hw3:IntKind.i64.wrap ((s.i:Int)+3)=(s.i:Int)+3:=IntWalk.i64_in _ (by omega)
     have p1:(0:Int)≤(s.i:Int)+1:=by omega
     have p3:((s.i:Int)+1).toNat=s.i+1:=by omega
     have p5:(s.i:Int)+1<(C.tk.length:Int):=by omega
     obtain⟨a0,d0,d1,d2,d3,d4,d5,d6,dfz⟩:=h3.out.facts;obtain⟨t0,t1,t2⟩:=h3.out.tok hx0.out hA
     have hlt:s.i<C.tk.length:=by omega
     go_wp2_with fail
     go_still_tail 11,(by kernel_rfl)
     have h4:=zi (h3.out.below (Below.refl _ wc).drew);change wpList _ _ _ _ _ wc.drew;obtain⟨w5,hw5⟩:∃x,x=wc.drew:=⟨_,rfl⟩;rw[←hw5]at h4⊢;clear hw5 a0 d0 d1 d2 d3 d4 d5 d6 dfz t0 t1 t2 h3;have h5:=h4.out.below (below_new w5 (.cells #[.int .i64 9,.pointer none,.pointer none,.pointer none,.pointer none,.string (strV x0.t)] 213))
     have hT5:CnAt (w5.alloc (.cells #[.int .i64 9,.pointer none,.pointer none,.pointer none,.pointer none,.string (strV x0.t)] 213)) (Ge w.heap.size) (.mk 9 .nil .nil .nil .nil x0.t) (.pointer (some ⟨w5.heap.size,0,none⟩)):=
      CnAt.new 9 x0.t (by decide) hl0 h4.out.wr.size rfl (ExAt.nil_ _ _) (ExAt.nil_ _ _) (CnAt.nil_ _ _) (CnAt.nil_ _ _)
     obtain⟨w6,hw6⟩:∃x,x=w5.alloc (.cells #[.int .i64 9,.pointer none,.pointer none,.pointer none,.pointer none,.string (strV x0.t)] 213):=⟨_,rfl⟩;rw[←hw6]at h5 hT5;obtain⟨g5,hg5⟩:∃x,x=w5.heap.size:=⟨_,rfl⟩;rw[←hg5]at hT5;go_wp2_with fail;rw[←hw6,←hg5];clear hw6 hg5 h4;obtain⟨a0,d0,d1,d2,d3,d4,d5,d6,dfz⟩:=h5.facts;obtain⟨t0,t1,t2⟩:=h5.tok hx1.out hA;replace h5:=zi h5;replace hT5:=zi hT5;by_cases q1:x1.t= [33,61]
     ·have k1:((strV x1.t).toList== [33,61])=true:=by rw[strV_toList,q1];rfl
      replace hF:Hid (R=(.mk 8 .nil .nil (.mk 9 .nil .nil .nil .nil x0.t) .nil [],{s with i:=s.i+3})):=zi (by rw[hF,q1];rfl);clear q1;go_quiet (fail);have h6:=h5.out.below (below_drewN (Below.refl _ w6) nq);have hT6:=hT5.out.below (below_drewN (Below.refl _ w6) nq);obtain⟨w7,hw7⟩:∃x,x=w6.drewN nq:=⟨_,rfl⟩;rw[←hw7]at h6 hT6⊢;clear hw7 a0 d0 d1 d2 d3 d4 d5 d6 dfz t0 t1 t2 h5 hT5;obtain⟨a0,d0,d1,d2,d3,d4,d5,d6,dfz⟩:=h6.facts;replace h6:=zi h6;replace hT6:=zi hT6;go_wp2_with fail;go_ret;have hS:=h6.out.store (s2:={s with i:=s.i+3}) 1 (.int .i64 ((s.i:Int)+3)) (by simp[PS.cells]) hok3.out;have hst:Writes [some Z.g] w7 (w7.setCell ⟨Z.g,1,none⟩ (.int .i64 ((s.i:Int)+3))):=Writes.store w7 (by simp) _;rw[hF.out];exact CnPost.of (hS.below (below_new _ _)) (CnAt.new 8 [] (by decide) (by simp) (Nat.le_trans h6.out.wr.size hst.size) (setCell_size _ _ _).symm (ExAt.nil_ _ _) (ExAt.nil_ _ _) (hT6.out.pw hst hlt0) (CnAt.nil_ _ _))
     ·have k1:((strV x1.t).toList== [33,61])=false:=by rw[strV_toList];simpa using q1
      replace hF:Hid (R=(.mk 9 .nil .nil .nil .nil x0.t,{s with i:=s.i+3})):=zi (by rw[hF,show(x1.t== [33,61])=false by simpa using q1];rfl);clear q1;go_quiet (fail);have h8:=h5.out.below (below_drewN (Below.refl _ w6) nq);have hT8:=hT5.out.below (below_drewN (Below.refl _ w6) nq);obtain⟨w8,hw8⟩:∃x,x=w6.drewN nq:=⟨_,rfl⟩;rw[←hw8]at h8 hT8⊢;clear hw8 a0 d0 d1 d2 d3 d4 d5 d6 dfz t0 t1 t2 h5 hT5;obtain⟨a0,d0,d1,d2,d3,d4,d5,d6,dfz⟩:=h8.facts;replace h8:=zi h8;replace hT8:=zi hT8;go_wp2_with fail;go_ret;have hS:=h8.out.store (s2:={s with i:=s.i+3}) 1 (.int .i64 ((s.i:Int)+3)) (by simp[PS.cells]) hok3.out;have hst:Writes [some Z.g] w8 (w8.setCell ⟨Z.g,1,none⟩ (.int .i64 ((s.i:Int)+3))):=Writes.store w8 (by simp) _;rw[hF.out];exact CnPost.of hS (hT8.out.pw hst hlt0)
    |false=>
     rw[hnv]at hnf;obtain⟨r,hr⟩:∃x,x=sum C s:=⟨_,rfl⟩;have hd:=(hs0 C s).dp;rw[←hr]at hd;have hF:Hid (cmpF C (sum C) r.1 0 cmpT r.2=R):=zi (by rw[hR.out,hr];unfold notF;rw[h33.out,h40.out,←hnf.out];rfl)
     have hdm:m≤r.2.deep:=by omega
     replace hr:=zi hr;clear hNull hnf hnv hR hTok hd;go_wp2_with fail;refine(hsum.from_ h3.out hm hr.out.symm).mono ?_;rintro e w4 ⟨p,rfl,h4,hE,-⟩;have hHn:=Holds.new w4 9 #[.string ⟨#[61,61]⟩,.string ⟨#[33,61]⟩,.string ⟨#[60]⟩,.string ⟨#[60,61]⟩,.string ⟨#[62]⟩,.string ⟨#[62,61]⟩];have hbn:=below_new w4 (.cells #[.string ⟨#[61,61]⟩,.string ⟨#[33,61]⟩,.string ⟨#[60]⟩,.string ⟨#[60,61]⟩,.string ⟨#[62]⟩,.string ⟨#[62,61]⟩] 9);have h5:=h4.below hbn;have hE5:=hE.below hbn;obtain⟨w5,hw5⟩:∃x,x=w4.alloc (.cells #[.string ⟨#[61,61]⟩,.string ⟨#[33,61]⟩,.string ⟨#[60]⟩,.string ⟨#[60,61]⟩,.string ⟨#[62]⟩,.string ⟨#[62,61]⟩] 9):=⟨_,rfl⟩;obtain⟨g5,hg5⟩:∃x,x=w4.heap.size:=⟨_,rfl⟩;have hgz:Hid (Z.g<g5):=zi (by rw[hg5];exact h4.at_.lt);rw[←hw5]at hHn h5 hE5;rw[←hg5]at hHn;have hH5:=zi hHn;replace h5:=zi h5;replace hE5:=zi hE5;clear h4 hE hbn hHn h3 hr;go_wp2_with fail;rw[←hw5,←hg5];clear hw5 hg5
     go_loopw [8] (fun kv wr=>∃k:Nat,k≤6∧kv= .int .i64 k∧Hid (cmpF C (sum C) r.1 k (cmpT.drop k) r.2=R)∧Hid (Moved C Z r.2 w wr∧ExAt wr (Ge w.heap.size) r.1 (.pointer p)∧Holds wr g5 9 #[.string ⟨#[61,61]⟩,.string ⟨#[33,61]⟩,.string ⟨#[60]⟩,.string ⟨#[60,61]⟩,.string ⟨#[62]⟩,.string ⟨#[62,61]⟩])) (fun kv _=>6-(intOf kv).toNat)
     case atStart=>exact⟨0,by omega,rfl,hF,zi ⟨h5.out,hE5.out,hH5.out⟩⟩
     clear hF h5 hE5 hH5;obtain⟨k,hk,rfl,hF,hAll⟩:=hrel;rename World=>wl;by_cases hk6:k<6
     ·have hk6':(k:Int)<6:=by omega
      have hlen6:k<cmpT.length:=hk6;obtain⟨t,ht⟩:∃x,x=cmpT[k]:=⟨_,rfl⟩
      have hdk:cmpT.drop k=t::cmpT.drop (k+1):=by rw[ht];exact List.drop_eq_getElem_cons hlen6
      have hcell:wl.cell? ⟨g5,k,none⟩=some (.string ⟨t.toArray⟩):=by rw[hAll.out.2.2.cell,ht];exact cmp_at k hk6
      have hgl:=hAll.out.2.2.lt
      cases hi:isF C t r.2 with
      |true=>
       obtain⟨r2,hr2⟩:∃x,x=sum C r.2.next:=⟨_,rfl⟩;have hF2:Hid (R=(.mk k r.1 r2.1 .nil .nil [],r2.2)):=zi (by rw[←hF.out,hdk,hr2];unfold cmpF;rw[if_pos hi]);replace hr2:=zi hr2;replace hi:=zi hi;clear hF hdk ht;go_wp2_with fail;refine(take_yes hAll.out.1 t hi.out rfl).mono ?_;rintro e w6 ⟨rfl,h6,hW6⟩;have hE6:=zi (hAll.out.2.1.pw hW6 hlt0);replace h6:=zi h6;clear hcell hgl hW6;go_wp2_with fail;refine(hsum.from_ h6.out (by simpa[PS.next]using hdm) hr2.out.symm).mono ?_;rintro e w7 ⟨p2,rfl,h7,hE7,hW7⟩;have hE8:=zi (hE6.out.pw hW7 hlt0);replace h7:=zi h7;replace hE7:=zi hE7;clear hW7;go_wp2_with fail;go_ret;rw[hF2.out];exact CnPost.of (h7.out.below (below_new _ _)) (CnAt.new k [] (by omega) (by simp) h7.out.wr.size rfl hE8.out hE7.out (CnAt.nil_ _ _) (CnAt.nil_ _ _))
      |false=>
       have hF2:Hid (cmpF C (sum C) r.1 (k+1) (cmpT.drop (k+1)) r.2=R):=zi (by rw[←hF.out,hdk];exact(cmpF_no hi _ _ _ ()).symm);replace hi:=zi hi;clear hF hdk ht;go_wp2_with fail;refine(take_no hAll.out.1 t hi.out).mono ?_;rintro e w6 ⟨rfl,h6,hW6⟩;have hA6:=zi (show Moved C Z r.2 w w6∧ExAt w6 (Ge w.heap.size) r.1 (.pointer p)∧Holds w6 g5 9 #[.string ⟨#[61,61]⟩,.string ⟨#[33,61]⟩,.string ⟨#[60]⟩,.string ⟨#[60,61]⟩,.string ⟨#[62]⟩,.string ⟨#[62,61]⟩]from⟨h6,hAll.out.2.1.pw hW6 hlt0,hW6.holds hAll.out.2.2 (by have:=hgz.out;simp;omega)⟩);clear hcell hgl hW6 h6;go_wp2_with fail;go_roundw
       case rel=>exact⟨k+1,by omega,by go_num,hF2,hA6⟩
       case measure=>simp[intOf];omega
     ·obtain rfl:k=6:=by omega
      have hF2:Hid (R=(.nil,failF C 51 r.2)):=zi (by rw[←hF.out];rfl);go_wp2_with fail;refine(fail_from hAll.out.1 51 (by decide) rfl).mono ?_;rintro e w6 ⟨rfl,h6,-⟩;replace h6:=zi h6;go_wp2_with fail;go_ret;rw[hF2.out];exact CnPost.of h6.out (CnAt.nil_ _ _)
end Go.Proofs.YtpndglghpojjkaaGreat
