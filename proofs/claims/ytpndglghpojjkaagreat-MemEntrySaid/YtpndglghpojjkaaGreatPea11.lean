/-
  17 texts of the proof, in one file: no condition.
-/
import Derived.Deep.Slices
import Derived.Test.YtpndglghpojjkaaGreatPea10
set_option maxRecDepth 1000000
set_option maxHeartbeats 8000000
namespace Go.Proofs.YtpndglghpojjkaaGreat
section
variable {C:PC}
theorem unF_wf {sum un:PS→Ex×PS} (hs:∀s,WfE (sum s).1) (hu:∀s,WfE (un s).1) (s:PS):WfE (unF C sum un s).1:=by
 unfold unF;split
 ·trivial
 ·split
  ·trivial
  ·split
   ·split
    ·exact⟨fun h=>absurd h (by decide),hu _,trivial⟩
    ·trivial
   ·split
    ·split
     ·exact hs _
     ·trivial
    ·split
     ·exact⟨fun h=>absurd h (by decide),trivial,trivial⟩
     ·split
      ·exact⟨fun _=>⟨rfl,rfl⟩,trivial,trivial⟩
      ·trivial
theorem prodK_one (s:PS):prodK C s≠1:=by
 unfold prodK
 repeat' split
 all_goals decide
theorem sumK_one (s:PS):sumK C s≠1:=by
 unfold sumK
 repeat' split
 all_goals decide
theorem moreL_wf {kf:PS→Nat} {part:PS→Ex×PS} (hk:∀s,kf s≠1) (hp:∀s,WfE (part s).1):∀(f:Nat) (a:Ex) (s:PS),WfE a→WfE (moreL kf part f a s).1
 |0,_,_,h=>h
 |f+1,a,s,h=>by
  unfold moreL;split
  ·exact h
  ·split
   ·exact h
   ·exact moreL_wf hk hp f _ _ ⟨fun h1=>absurd h1 (hk _),h,hp _⟩
theorem prodF_wf {un:PS→Ex×PS} (hu:∀s,WfE (un s).1) (s:PS):WfE (prodF C un s).1:=moreL_wf prodK_one hu _ _ _ (hu s)
theorem sumF_wf {un:PS→Ex×PS} (hu:∀s,WfE (un s).1) (s:PS):WfE (sumF C un s).1:=moreL_wf sumK_one (prodF_wf hu) _ _ _ (prodF_wf hu s)
theorem unD_wf:∀(d:Nat) (s:PS),WfE (unD C d s).1
 |0,s=>unF_wf (sum:=fun s=>(.nil,s)) (un:=fun s=>(.nil,s)) (fun _=>trivial) (fun _=>trivial) s
 |d+1,s=>unF_wf (sumF_wf (unD_wf d)) (unD_wf d) s
theorem sumD_wf (d:Nat) (s:PS):WfE (sumD C d s).1:=sumF_wf (unD_wf d) s
theorem cmpF_wf {sum:PS→Ex×PS} (hs:∀s,WfE (sum s).1) {a:Ex} (ha:WfE a):∀(l:List (List UInt8)) (k:Nat) (s:PS),k+l.length≤9→WfC (cmpF C sum a k l s).1
 | [],_,_,_=>trivial
 |t::r,k,s,h=>by
  unfold cmpF;simp only[List.length_cons]at h;split
  ·exact⟨fun e=>by omega,ha,hs _,trivial,trivial⟩
  ·exact cmpF_wf hs ha r (k+1) s (by omega)
theorem notF_wf {sum:PS→Ex×PS} {cond not_:PS→Cn×PS} (hs:∀s,WfE (sum s).1) (hc:∀s,WfC (cond s).1) (hn:∀s,WfC (not_ s).1) (s:PS):WfC (notF C sum cond not_ s).1:=by
 unfold notF;split
 ·split
  ·exact⟨fun h=>absurd h (by decide),trivial,trivial,hn _,trivial⟩
  ·trivial
 ·split
  ·split
   ·exact hc _
   ·trivial
  ·split
   ·simp only;split
    ·exact⟨fun h=>absurd h (by decide),trivial,trivial,⟨fun _=>⟨rfl,rfl,rfl,rfl⟩,trivial,trivial,trivial,trivial⟩,trivial⟩
    ·exact⟨fun _=>⟨rfl,rfl,rfl,rfl⟩,trivial,trivial,trivial,trivial⟩
   ·exact cmpF_wf hs (hs s) _ _ _ (by decide)
theorem joinL_wf {t:List UInt8} {k:Nat} (hk:k≠9) {part:PS→Cn×PS} (hp:∀s,WfC (part s).1):∀(f:Nat) (c:Cn) (s:PS),WfC c→WfC (joinL C t k part f c s).1
 |0,_,_,h=>h
 |f+1,c,s,h=>by
  unfold joinL;split
  ·exact joinL_wf hk hp f _ _ ⟨fun h1=>absurd h1 hk,trivial,trivial,h,hp _⟩
  ·exact h
theorem andF_wf {n:PS→Cn×PS} (hn:∀s,WfC (n s).1) (s:PS):WfC (andF C n s).1:=joinL_wf (by decide) hn _ _ _ (hn s)
theorem condF_wf {n:PS→Cn×PS} (hn:∀s,WfC (n s).1) (s:PS):WfC (condF C n s).1:=joinL_wf (by decide) (andF_wf hn) _ _ _ (andF_wf hn s)
theorem notD_wf:∀(d:Nat) (s:PS),WfC (notD C d s).1
 |0,s=>notF_wf (cond:=fun s=>(.nil,s)) (not_:=fun s=>(.nil,s)) (sumD_wf 0) (fun _=>trivial) (fun _=>trivial) s
 |d+1,s=>notF_wf (sumD_wf (d+1)) (condF_wf (notD_wf d)) (notD_wf d) s
theorem condD_wf (d:Nat) (s:PS):WfC (condD C d s).1:=condF_wf (notD_wf d) s
def WfA (a:Ag):Prop:=WfE a.e∧(a.ptr=true→a.e=Ex.nil)
theorem argsL_wf {sum:PS→Ex×PS} (hs:∀s,WfE (sum s).1):∀(f:Nat) (l:List Ag) (s:PS),(∀a∈l,WfA a)→∀a∈(argsL C sum f l s).1,WfA a
 |0,_,_,_=>by intro a h;cases h
 |f+1,l,s,hl=>by
  have hl2:∀a∈l++ [⟨false,[],(sum s).1⟩],WfA a:=by
   intro a h;rcases List.mem_append.1 h with h|h
   ·exact hl a h
   ·simp only[List.mem_singleton]at h;subst h;exact⟨hs s,fun h=>by cases h⟩
  unfold argsL;split
  ·intro a h;cases h
  ·split
   ·exact hl2
   ·exact argsL_wf hs f _ _ hl2
theorem argsF_wf {sum:PS→Ex×PS} (hs:∀s,WfE (sum s).1) (s:PS):∀a∈(argsF C sum s).1,WfA a:=by
 unfold argsF;split
 ·intro a h;cases h
 ·exact argsL_wf hs _ _ _ (by intro a h;cases h)
theorem WfH.of {h:Hd} (e:WfE h.e) (f:WfE h.f) (c:WfC h.c) (a:∀a∈h.args,WfA a) (hk:h.k≤12) (h8:h.k≠8→h.args= []) (h0:h.k=0→h.f= .nil∧h.c= .nil) (h2:h.k≠2):WfH h .nil .nil:=
 ⟨e,f,c,a,h8,fun x=>⟨(h0 x).1,(h0 x).2,rfl,rfl⟩,fun x=>absurd x h2,hk⟩
theorem no_args {P:Ag→Prop}:∀a∈([]:List Ag),P a:=by intro a h;cases h
theorem valueF_wf {sum:PS→Ex×PS} (hs:∀s,WfE (sum s).1) (n:Nat) (x:List UInt8) (s:PS):WfH (valueF C sum {hd0 n with x:=x} s).1 .nil .nil:=by
 unfold valueF hd0;split
 ·exact WfH.of trivial trivial trivial no_args (by simp) (fun _=>rfl) (fun h=>by simp at h) (by simp)
 ·split
  ·exact WfH.of trivial trivial trivial no_args (by simp) (fun _=>rfl) (fun h=>by simp at h) (by simp)
  ·split
   ·exact WfH.of trivial trivial trivial no_args (by simp) (fun _=>rfl) (fun h=>by simp at h) (by simp)
   ·split
    ·exact WfH.of (hs _) trivial trivial no_args (by simp) (fun _=>rfl) (fun h=>by simp at h) (by simp)
    ·split
     ·exact WfH.of trivial trivial trivial (argsF_wf hs _) (by simp) (fun h=>absurd rfl h) (fun h=>by simp at h) (by simp)
     ·exact WfH.of (hs _) trivial trivial no_args (by simp) (fun _=>rfl) (fun _=>⟨rfl,rfl⟩) (by simp)
theorem plainF_wf {sum:PS→Ex×PS} {cond:PS→Cn×PS} (hs:∀s,WfE (sum s).1) (hc:∀s,WfC (cond s).1) (n:Nat) (s:PS):WfH (plainF C sum cond n s).1 .nil .nil:=by
 unfold plainF;split
 ·exact WfH.of (hs _) trivial trivial no_args (by simp) (fun _=>rfl) (fun h=>by simp at h) (by simp)
 ·split
  ·exact WfH.of trivial trivial (hc _) no_args (by simp) (fun _=>rfl) (fun h=>by simp at h) (by simp)
  ·split
   ·exact WfH.of (hs _) trivial trivial no_args (by simp) (fun _=>rfl) (fun h=>by simp at h) (by simp)
   ·split
    ·exact WfH.of trivial trivial trivial (argsF_wf hs _) (by simp) (fun h=>absurd rfl h) (fun h=>by simp at h) (by simp)
    ·split
     ·exact WfH.of (hs _) (hs _) trivial no_args (by simp) (fun _=>rfl) (fun h=>by simp at h) (by simp)
     ·exact valueF_wf hs _ _ _
def WfT (x:Hd×Sl×Sl):Prop:=WfH x.1 x.2.1 x.2.2∧WfS x.2.1∧WfS x.2.2
theorem stmtF_wf {sum:PS→Ex×PS} {cond:PS→Cn×PS} {block:PS→Sl×PS} (hs:∀s,WfE (sum s).1) (hc:∀s,WfC (cond s).1) (hb:∀s,WfS (block s).1) (s:PS):WfT (stmtF C sum cond block s).1:=by
 have key:∀(k n:Nat) (c:Cn) (t e:Sl),(k=10∨k=11)→WfC c→WfH {hd0 n with k:=k,c:=c} t e:=by
  intro k n c t e hk hc;refine⟨trivial,trivial,hc,no_args,fun _=>rfl,fun h=> ?_,fun h=> ?_,?_⟩
  all_goals simp only at*
  all_goals omega
 unfold stmtF;split
 ·exact⟨WfH.of trivial trivial trivial no_args (by simp[hd0]) (fun _=>rfl) (fun _=>⟨rfl,rfl⟩) (by simp[hd0]),trivial,trivial⟩
 ·split
  ·split
   ·exact⟨key _ _ _ _ _ (.inl rfl) (hc _),hb _,hb _⟩
   ·exact⟨key _ _ _ _ _ (.inl rfl) (hc _),hb _,trivial⟩
  ·split
   ·exact⟨key _ _ _ _ _ (.inr rfl) (hc _),hb _,trivial⟩
   ·exact⟨plainF_wf hs hc _ _,trivial,trivial⟩
theorem snoc_wf:∀{l:Sl} {h:Hd} {t e:Sl},WfS l→WfT (h,t,e)→WfS (l.snoc h t e)
 | .nil,_,_,_,_,hx=>⟨hx.1,hx.2.1,hx.2.2,trivial⟩
 | .cons _ _ _ _,_,_,_,hl,hx=>⟨hl.1,hl.2.1,hl.2.2.1,snoc_wf hl.2.2.2 hx⟩
theorem stmtsL_wf {stmt:PS→(Hd×Sl×Sl)×PS} (hs:∀s,WfT (stmt s).1):∀(f:Nat) (l:Sl) (s:PS),WfS l→WfS (stmtsL C stmt f l s).1
 |0,_,_,h=>h
 |f+1,l,s,h=>by
  unfold stmtsL;split
  ·exact h
  ·split
   ·exact h
   ·split
    ·trivial
    ·exact stmtsL_wf hs f _ _ (snoc_wf h (hs s))
theorem stmtsF_wf {stmt:PS→(Hd×Sl×Sl)×PS} (hs:∀s,WfT (stmt s).1) (s:PS):WfS (stmtsF C stmt s).1:=stmtsL_wf hs _ _ _ trivial
theorem blockF_wf {stmts:PS→Sl×PS} (hs:∀s,WfS (stmts s).1) (s:PS):WfS (blockF C stmts s).1:=by
 unfold blockF;split
 ·split
  ·exact hs _
  ·trivial
 ·trivial
theorem stmtD_wf:∀(d:Nat) (s:PS),WfT (stmtD C d s).1
 |0,s=>stmtF_wf (sumD_wf 0) (condD_wf 0) (blockF_wf (stmts:=fun s=>(.nil,s)) fun _=>trivial) s
 |d+1,s=>stmtF_wf (sumD_wf (d+1)) (condD_wf (d+1)) (blockF_wf (stmtsF_wf (stmtD_wf d))) s
theorem stmtsD_wf (d:Nat) (s:PS):WfS (stmtsD C d s).1:=stmtsF_wf (stmtD_wf d) s
theorem bodyF_wf:WfS (bodyF C).1:=by
 unfold bodyF;generalize (39:Nat)=d;exact stmtsD_wf d _
end
structure WfFn (f:Fnc):Prop where
 body:WfS f.body
theorem WfFn.none_:WfFn Fnc.none:=⟨trivial⟩
theorem funcP_wf (C:PC):WfFn (funcP C).1:=by
 have hb:=bodyF_wf (C:=C);unfold funcP;generalize bodyF C=r at hb;generalize restF C r.2=s;split
 ·exact WfFn.none_
 ·exact⟨hb⟩
theorem funcF_wf (l:List UInt8):WfFn (funcF l).1:=by
 unfold funcF;generalize lexF l=x;split
 ·exact WfFn.none_
 ·exact funcP_wf _
def exL:Ex→List S
 | .nil=> []
 | .mk k _ nm a b=>(if k=1 then [nm]else [])++(exL a++exL b)
def cnL:Cn→List S
 | .nil=> []
 | .mk _ a b p q _=>exL a++(exL b++(cnL p++cnL q))
def agR (l:List Ag):List S:=l.flatMap fun a=>exL a.e
def each (d:Hd→List S):Sl→List S
 | .nil=> []
 | .cons h t e r=>d h++(each d t++(each d e++each d r))
def allH (p:Hd→Prop):Sl→Prop
 | .nil=>True
 | .cons h t e r=>p h∧allH p t∧allH p e∧allH p r
theorem allH.imp {p q:Hd→Prop} (h:∀y,p y→q y):∀{l:Sl},allH p l→allH q l
 | .nil,_=>trivial
 | .cons _ _ _ _,⟨h1,h2,h3,h4⟩=>⟨h _ h1,h2.imp h,h3.imp h,h4.imp h⟩
theorem allH.and {p q:Hd→Prop}:∀{l:Sl},allH p l→allH q l→allH (fun y=>p y∧q y) l
 | .nil,_,_=>trivial
 | .cons _ _ _ _,⟨h1,h2,h3,h4⟩,⟨g1,g2,g3,g4⟩=>⟨⟨h1,g1⟩,h2.and g2,h3.and g3,h4.and g4⟩
section
variable (K:List UInt8→Nat)
end
structure NeH (h:Hd):Prop where
 e:∀x∈exL h.e,x≠[]
 f:∀x∈exL h.f,x≠[]
 c:∀x∈cnL h.c,x≠[]
 a:∀x∈agR h.args,x≠[]
 x:h.k=0∨h.k=4∨h.k=6→h.x≠[]
 y:h.k=1→h.y≠[]
 n:h.k≠8→h.args= []
 p:∀a∈h.args,a.ptr=true→a.e=Ex.nil
theorem kind_mem {l:List Vr} {x:S}:kindL l x=0↔x∉l.map Vr.nm:=by
 induction l with
 |nil=>simp[kindL]
 |cons v l ih=>
  unfold kindL;by_cases e:v.nm=x
  ·simp only[e,beq_self_eq_true,if_true,List.map_cons,List.mem_cons,true_or,not_true_eq_false,iff_false];cases v.ptr<;>simp
  ·have:(v.nm==x)=false:=by simpa using e
   rw[this];simp only[Bool.false_eq_true,if_false,ih,List.map_cons,List.mem_cons,not_or];exact⟨fun h=>⟨fun h2=>e h2.symm,h⟩,fun h=>h.2⟩
theorem kind_one {l:List Vr} {x:S} (hn:(l.map Vr.nm).Nodup) {v:Vr} (hv:v∈l) (hx:v.nm=x):kindL l x=if v.ptr then 2 else 1:=by
 induction l with
 |nil=>cases hv
 |cons u l ih=>
  rw[List.map_cons,List.nodup_cons]at hn;unfold kindL;rcases List.mem_cons.1 hv with e|e
  ·subst e;rw[hx];simp
  ·have:u.nm≠x:=fun h=>hn.1 (by rw[h,←hx];exact List.mem_map_of_mem e)
   have:(u.nm==x)=false:=by simpa using this
   rw[this];exact ih hn.2 e
theorem kind_rev {l:List Vr} (hn:(l.map Vr.nm).Nodup):kindL l.reverse=kindL l:=by
 funext x
 have hn2:(l.reverse.map Vr.nm).Nodup:=by rw[List.map_reverse];exact(List.reverse_perm _).nodup_iff.2 hn
 by_cases h:x∈l.map Vr.nm
 ·obtain⟨v,hv,hx⟩:=List.mem_map.1 h;rw[kind_one hn hv hx,kind_one hn2 (List.mem_reverse.2 hv) hx]
 ·rw[kind_mem.2 h,kind_mem.2 (by rw[List.map_reverse,List.mem_reverse];exact h)]
end Go.Proofs.YtpndglghpojjkaaGreat
namespace Go.Proofs.YtpndglghpojjkaaGreat
open Go.RowKit Go.Deep
structure SnkB (k:Nat) (first cap:Array Value) (M:List (Option Nat)) {σ:Type} (I:σ→World→Prop) (f:σ→List UInt8→σ) (bud:σ→Nat):Prop where
 ent:∀args w,(callFunc k args).run Tryz.prog w= .ok (.enter k args) w
 call:∀s x w,x.length≤4096→0<bud s→I s w→Calls Tryz.prog k (first++ #[.string (strV x)]++cap) w fun e w'=>e= .returned (.tuple #[])∧I (f s x) w'∧Writes M w w'
 keep:∀s w w',I s w→Below w.heap.size w w'→I s w'
 low:∀s w g,I s w→some g∈M→g<w.heap.size
 step:∀s x,bud s≤bud (f s x)+1
structure StSnkB (k:Nat) (first cap:Array Value) (M:List (Option Nat)) {σ:Type} (I:σ→World→Prop) (d:σ→Hd→σ×Bool) (bud:σ→Nat) (cst:Hd→Nat):Prop where
 ent:∀args w,(callFunc k args).run Tryz.prog w= .ok (.enter k args) w
 call:∀s h w pe pf pc Aa At Al na ca nt ct nl cl,HdAt w (NotOf M) h (.pointer pe) (.pointer pf) (.pointer pc) (.slice Aa na ca)→cst h≤bud s→I s w→
  Calls Tryz.prog k (first++ #[.agg (stC h pe pf pc Aa At Al na ca nt ct nl cl)]++cap) w fun e w'=>e= .returned (.bool (d s h).2)∧I (d s h).1 w'∧Writes M w w'
 keep:∀s w w',I s w→Below w.heap.size w w'→I s w'
 low:∀s w g,I s w→some g∈M→g<w.heap.size
 step:∀s h,bud s≤bud (d s h).1+cst h
structure ClI (m fm:Nat) (K:List UInt8→Nat) (s:List S) (w:World):Prop where
 km:KMap w m K
 fs:SMap w fm s.length (setF s)
 len:s.length≤500000
 ne:m≠fm
theorem ClI.below {m fm:Nat} {K:List UInt8→Nat} {s:List S} {w w':World} (h:ClI m fm K s w) (hb:Below w.heap.size w w'):ClI m fm K s w':=
 ⟨h.km.below hb,h.fs.loc (hb.block fm h.fs.lt),h.len,h.ne⟩
structure Exs (m:Option Nat) (M:List (Option Nat)) (gv gs:Nat) (cs:Array Value) (w0 w:World):Prop where
 hv:Holds w gv 83 #[.map m]
 hs:Holds w gs 63 cs
 gm:NotOf M gv
 sm:NotOf M gs
 wr:Writes M w0 w
theorem Exs.facts {m:Option Nat} {M:List (Option Nat)} {gv gs:Nat} {w0 w:World} {h:Hd} {pe pf pc Aa At Al:Option Addr} {na ca nt ct nl cl:Nat} (H:Exs m M gv gs (stC h pe pf pc Aa At Al na ca nt ct nl cl) w0 w):
  w.cell? ⟨gv,0,none⟩=some (.map m)∧gv<w.heap.size∧gs<w.heap.size∧w.cell? ⟨gs,3,none⟩=some (.pointer pe)∧w.cell? ⟨gs,4,none⟩=some (.pointer pf)∧w.cell? ⟨gs,5,none⟩=some (.pointer pc)∧w.cell? ⟨gs,6,none⟩=some (.slice Aa na ca):=
 ⟨H.hv.cell 0,H.hv.lt,H.hs.lt,H.hs.cell 3,H.hs.cell 4,H.hs.cell 5,H.hs.cell 6⟩
theorem AgsAt.wr {w w':World} {M:List (Option Nat)} {l:List Ag} {v:Value} (h:AgsAt w (NotOf M) l v) (hW:Writes M w w'):AgsAt w' (NotOf M) l v:=h.keep fun x hx hS=>hW.block x hx hS
structure CcI (gc m fm:Nat) (K:List UInt8→Nat) (s:List S) (w:World):Prop where
 ci:ClI m fm K s w
 hc:Holds w gc 110 #[.map (some m),.map (some fm)]
theorem CcI.below {gc m fm:Nat} {K:List UInt8→Nat} {s:List S} {w w':World} (h:CcI gc m fm K s w) (hb:Below w.heap.size w w'):CcI gc m fm K s w':=⟨h.ci.below hb,h.hc.below hb h.hc.lt⟩
theorem CcI.apart {gc m fm:Nat} {K:List UInt8→Nat} {s:List S} {w:World} (h:CcI gc m fm K s w):gc≠fm:=h.ci.fs.noblk (h.hc.cell 0)
theorem CcI.next {gc m fm:Nat} {K:List UInt8→Nat} {s s':List S} {w w':World} (h:CcI gc m fm K s w) (h2:ClI m fm K s' w') (hW:Writes [some fm] w w'):CcI gc m fm K s' w':=⟨h2,hW.holds h.hc (by simp;exact h.apart)⟩
theorem CcI.facts {gc m fm:Nat} {K:List UInt8→Nat} {s:List S} {w:World} (h:CcI gc m fm K s w):w.cell? ⟨gc,0,none⟩=some (.map (some m))∧w.cell? ⟨gc,1,none⟩=some (.map (some fm))∧gc<w.heap.size:=⟨h.hc.cell 0,h.hc.cell 1,h.hc.lt⟩
structure TwoS (g g':Nat) (cs cs':Array Value) (w0 w:World):Prop where
 h1:Holds w g 63 cs
 h2:Holds w g' 63 cs'
 bl:Below w0.heap.size w0 w
theorem TwoS.below {g g':Nat} {cs cs':Array Value} {w0 w w':World} (h:TwoS g g' cs cs' w0 w) (hb:Below w.heap.size w w'):TwoS g g' cs cs' w0 w':=⟨h.h1.below hb h.h1.lt,h.h2.below hb h.h2.lt,h.bl.trans (hb.mono h.bl.size)⟩
theorem RestAt.up {w w':World} {A:Option Addr} {k:Nat} {l:Sl} {us:List Value} (H:RestAt w Evr A k l us) (hb:Below w.heap.size w w'):RestAt w' Evr A k l us:=by
 refine⟨H.cs.keep fun x hx _=>hb.block x hx,fun hne=> ?_⟩;obtain⟨b,off,e,hS,hc⟩:=H.row hne;refine⟨b,off,e,hS,fun j u hu=> ?_⟩;have h1:=hc j u hu;rw[←h1];exact World.cell?_of_block (hb.block b (lt_of_cell h1))
theorem rstmt_any (F:FnV) (w:World) (h:Hd) (pe pf pc Aa At Al:Option Addr) (na ca nt ct nl cl:Nat) (S:Nat→Prop) (hF:F.ok w) (H:HdAt w S h (.pointer pe) (.pointer pf) (.pointer pc) (.slice Aa na ca)):
  Calls Tryz.prog 93 #[.agg F.cells,.agg (stC h pe pf pc Aa At Al na ca nt ct nl cl)] w (StOut S F.K h At Al nt ct nl cl w):=by
 have hk:=H.k;obtain⟨k,hx,hy,he,hf,hc,hg,ha⟩:=h;simp only at hk;rcases(show k=0∨k=8∨(k=1∨k=2∨k=3∨k=4)∨(k=5∨k=6∨k=7∨k=9)∨(k=10∨k=11∨k=12)by omega)with h0|h0|h0|h0|h0
 ·exact rstmt_zero F w k hx hy he hf hc hg ha h0 pe pf pc Aa At Al na ca nt ct nl cl S hF H
 ·exact rstmt_call F w k hx hy he hf hc hg ha h0 pe pf pc Aa At Al na ca nt ct nl cl S hF H
 ·exact rstmt_two F w k hx hy he hf hc hg ha h0 pe pf pc Aa At Al na ca nt ct nl cl S hF H
 ·exact rstmt_sum F w k hx hy he hf hc hg ha h0 pe pf pc Aa At Al na ca nt ct nl cl S hF H
 ·exact rstmt_cond F w k hx hy he hf hc hg ha h0 pe pf pc Aa At Al na ca nt ct nl cl S hF H
def Sl.app:Sl→Sl→Sl
 | .nil,y=>y
 | .cons h t e r,y=> .cons h t e (r.app y)
theorem Sl.app_nil:∀(l:Sl),l.app .nil=l
 | .nil=>rfl
 | .cons h t e r=>by show Sl.cons h t e (r.app .nil)=_;rw[Sl.app_nil r]
theorem Sl.snoc_app:∀(l:Sl) (h:Hd) (t e y:Sl),(l.snoc h t e).app y=l.app (.cons h t e y)
 | .nil,_,_,_,_=>rfl
 | .cons a b c r,h,t,e,y=>by show Sl.cons a b c ((r.snoc h t e).app y)=_;rw[Sl.snoc_app r];rfl
def catR (d:Sl) (r:Sl×Option Nat):Sl×Option Nat:=match r.2 with|some a=>(.nil,some a)|none=>(d.app r.1,none)
def atI:Option Nat→Int
 |some a=>a
 |none=> -1
theorem catR_nil (d:Sl):catR d (.nil,none)=(d,none):=by unfold catR;simp only[Sl.app_nil]
section
variable {K:List UInt8→Nat} {h:Hd} {t e r:Sl}
theorem stmtsR_bad (h1:(stmtR K h).2=false):stmtsR K (.cons h t e r)=(.nil,some h.at_):=by
 unfold stmtsR;rw[if_neg (by rw[h1];simp)]
theorem stmtsR_t (h1:(stmtR K h).2=true) {a:Nat} (h2:(stmtsR K (subT K h t)).2=some a):stmtsR K (.cons h t e r)=(.nil,some a):=by
 unfold stmtsR;rw[if_pos h1];unfold subT at h2;by_cases ht:turned K h=true
 ·rw[if_pos ht]at h2;cases h2
 ·rw[if_neg ht]at h2⊢;rw[h2]
theorem stmtsR_e (h1:(stmtR K h).2=true) (h2:(stmtsR K (subT K h t)).2=none) {a:Nat} (h3:(stmtsR K (subT K h e)).2=some a):stmtsR K (.cons h t e r)=(.nil,some a):=by
 unfold stmtsR;rw[if_pos h1];unfold subT at h2 h3;by_cases ht:turned K h=true
 ·rw[if_pos ht]at h3;cases h3
 ·rw[if_neg ht]at h2 h3⊢;rw[h2];simp only[h3]
theorem stmtsR_ok (d:Sl) (h1:(stmtR K h).2=true) (h2:(stmtsR K (subT K h t)).2=none) (h3:(stmtsR K (subT K h e)).2=none):catR d (stmtsR K (.cons h t e r))=catR (d.snoc (stmtR K h).1 (stmtsR K (subT K h t)).1 (stmtsR K (subT K h e)).1) (stmtsR K r):=by
 have e0:stmtsR K (.cons h t e r)=match (stmtsR K r).2 with|some a=>(.nil,some a)|none=>(.cons (stmtR K h).1 (stmtsR K (subT K h t)).1 (stmtsR K (subT K h e)).1 (stmtsR K r).1,none):=by
  conv=>lhs;unfold stmtsR
  rw[if_pos h1];unfold subT at h2 h3⊢;by_cases ht:turned K h=true
  ·rw[if_pos ht,if_pos ht,if_pos ht];rfl
  ·rw[if_neg ht]at h2 h3⊢;rw[if_neg ht,if_neg ht,h2];simp only[h3];rfl
 rw[e0]
 cases hr:(stmtsR K r).2 with
 |some a=>simp only[catR,hr]
 |none=>simp only[catR,hr,Sl.snoc_app]
end
def RSt (F:FnV) (l:Sl):Prop:=∀(w:World) (v:Value) (S:Nat→Prop),F.ok w→SlAt w S l v→
 Calls Tryz.prog 45 #[.agg F.cells,v] w fun e w'=>∃v',e= .returned (.tuple #[v',.int .i64 (atI (stmtsR F.K l).2)])∧SlAt w' (fun x=>S x∨w.heap.size≤x) (stmtsR F.K l).1 v'∧Below w.heap.size w w'
structure OutS (S:Nat→Prop) (B0 B:Nat) (d:Sl) (v:Value) (us:List Value) (w:World):Prop where
 own:w.ownsRow B 63 10 v d.len us
 cs:SlCells w (fun x=>(S x∨B0≤x)∧some x≠v.ownBlock) d us
theorem OutS.below {S:Nat→Prop} {B0 B:Nat} {d:Sl} {v:Value} {us:List Value} {w w':World} (h:OutS S B0 B d v us w) (hb:Below w.heap.size w w'):OutS S B0 B d v us w':=⟨own_below h.own hb,h.cs.keep fun x hx _=>hb.block x hx⟩
theorem OutS.sl {S:Nat→Prop} {B0 B:Nat} {d:Sl} {v:Value} {us:List Value} {w:World} (h:OutS S B0 B d v us w) (hB:B0≤B) (hd:d.len≤100000):SlAt w (fun x=>S x∨B0≤x) d v:=by
 obtain⟨A,c,rfl,hr,hc⟩:=RowS.own (S:=fun x=>S x∨B0≤x) h.own (fun g hg=> .inr (Nat.le_trans hB (ownK_ge h.own hg)));exact⟨A,c,us,rfl,hd,hc,hr,h.cs.mono fun _ _ h=>h.1⟩
theorem OutS.push {S:Nat→Prop} {B0 B:Nat} {d:Sl} {v v':Value} {us:List Value} {w wb w4:World} {h:Hd} {t e:Sl} {ve vf vc va vt vl:Value} (hO:OutS S B0 B d v us w) (hh:HdAt w (fun x=>(S x∨B0≤x)∧some x≠v.ownBlock) h ve vf vc va)
  (ht:SlAt w (fun x=>(S x∨B0≤x)∧some x≠v.ownBlock) t vt) (he:SlAt w (fun x=>(S x∨B0≤x)∧some x≠v.ownBlock) e vl) (hb:Below w.heap.size w wb) (hg:wb.grownBy w4 v.ownBlock) (hv:v'.ownBlock=v.ownBlock∨v'.ownBlock=some wb.heap.size)
  (ho:w4.ownsRow B 63 10 v' (d.len+1) (us++(h.cells ve vf vc va vt vl).toList)):OutS S B0 B (d.snoc h t e) v' (us++(h.cells ve vf vc va vt vl).toList) w4:=by
 refine⟨own_len ho (Sl.snoc_len _ _ _ _).symm,?_⟩;have h3:=(hO.cs.snoc hh ht he).keep fun x hx _=>hb.block x hx
 have h5:SlCells wb (fun x=>((S x∨B0≤x)∧some x≠v.ownBlock)∧((S x∨B0≤x)∧some x≠v'.ownBlock)) _ _:=h3.mono fun x hx hS=>⟨hS,hS.1,by
  rcases hv with hv|hv
  ·rw[hv];exact hS.2
  ·rw[hv];simp;omega⟩
 exact(h5.keep fun x hx hS=>hg.block x hx hS.1.2).mono fun _ _ hS=>hS.2
theorem rstmts_step (F:FnV) (l0:Sl) (ih:∀l',l'.dep<l0.dep→RSt F l'):RSt F l0:=by
 intro w v S hF hv;obtain⟨iA,hiA,hzA0,hzA1,hzA2⟩:=info_parts Tryz.clStmt;obtain⟨A,c,us0,e,hlen,hlc,hR⟩:=hv.rest;subst e;obtain⟨R,hRR⟩:∃R,R=stmtsR F.K l0:=⟨_,rfl⟩;rw[←hRR];obtain⟨n,hn⟩:∃y,y=l0.len:=⟨_,rfl⟩;rw[←hn]at hlen hlc⊢;obtain⟨w1,hw1⟩:∃y,y=w.alloc (.cells F.cells 26):=⟨_,rfl⟩;obtain⟨gp,hgp⟩:∃y,y=w.heap.size:=⟨_,rfl⟩;have hB1:=RfB.new hF;rw[←hw1,←hgp]at hB1;have h0:Hid (RestAt w S A 0 l0 us0):=zi hR;have hn0:Hid (0+l0.len=n):=zi (by rw[hn];simp);have hd0:Hid (l0.dep≤l0.dep):=zi (Nat.le_refl _)
 have hR0:Hid (catR .nil (stmtsR F.K l0)=R):=zi (by
  rw[hRR];unfold catR
  cases hr:(stmtsR F.K l0).2 with
  |some a=>
   have:(stmtsR F.K l0).1= .nil:=by
    cases l0 with
    |nil=>rfl
    |cons h t e r=>
     cases h1:(stmtR F.K h).2 with
     |false=>rw[stmtsR_bad h1]
     |true=>
      cases h2:(stmtsR F.K (subT F.K h t)).2 with
      |some b=>rw[stmtsR_t h1 h2]
      |none=>
       cases h3:(stmtsR F.K (subT F.K h e)).2 with
       |some b=>rw[stmtsR_e h1 h2 h3]
       |none=>
        have h4:=stmtsR_ok (r:=r) .nil h1 h2 h3;unfold catR at h4;rw[hr]at h4
        cases h5:(stmtsR F.K r).2 with
        |some b=>
         unfold stmtsR;rw[if_pos h1];unfold subT at h2 h3;by_cases ht:turned F.K h=true
         ·rw[if_pos ht];simp only[h5]
         ·rw[if_neg ht]at h2 h3⊢;simp only[h2,h3,h5]
        |none=>rw[h5]at h4;cases h4
   simp only;rw[←this,←hr]
  |none=>simp only[Sl.app];rw[←hr])
 have hO0:Hid (OutS S w.heap.size w1.heap.size .nil (.slice none 0 0) [] w1):=zi ⟨World.ownsRow_nil _ _ _ _,rfl⟩;have hw01:=zi hB1.bl.size;have hgw:=zi hB1.hg.lt;have hB1':=zi hB1;have hih:=zi ih;have hF':=zi hF;have hfo:=zi hw1.symm;have hgp':=zi hgp.symm;unfold FnV.cells at hfo⊢;clear hv hR hn ih hw1 hgp hB1 hF hRR;go_enter Tryz.func45,Tryz.ntmps45;go_upto_region 1 with(fail);rw[hfo.out,hgp'.out];clear hfo hgp';go_wp2_with fail;go_loopw [6,7] (fun u6 i wl=>∃(k:Nat) (ls d:Sl) (vs us:List Value),k≤n∧i= .int .i64 k∧Hid (RestAt w S A k ls vs)∧Hid (OutS S w.heap.size w1.heap.size d u6 us wl)∧Hid (catR d (stmtsR F.K ls)=R)∧Hid (k+ls.len=n)∧Hid (ls.dep≤l0.dep)∧Hid (RfB F gp w wl)∧Hid (d.len=k)∧Hid (w1.heap.size≤wl.heap.size)) (fun _ i _=>n-(intOf i).toNat)
 case atStart=>exact⟨0,l0,.nil,us0,[],by omega,rfl,h0,hO0,hR0,hn0,hd0,hB1',zi rfl,zi (Nat.le_refl _)⟩
 clear h0 hO0 hR0 hn0 hd0 hB1';obtain⟨k,ls,d,vs,us,hkn,rfl,hR,hO,hRe,hln,hdp,hB,hdl,hsz⟩:=hrel;rename World=>wl
 cases ls with
 |nil=>
  have hkn2:k=n:=by have:=hln.out;simp[Sl.len]at this;exact this
  subst hkn2;have hRR:Hid (R=(d,none)):=zi (by rw[←hRe.out];exact catR_nil d);have hSl:=zi (hO.out.sl hw01.out (by rw[hdl.out];exact hlen));clear hR hO hRe;go_wp2_with fail
  go_ret2
  exact⟨u6,by rw[hRR.out];rfl,by rw[hRR.out];exact hSl.out,hB.out.bl⟩
 |cons h t e r=>
  have hlt:k<n:=by have:=hln.out;simp only[Sl.len]at this;omega
  obtain⟨b,off,pe,pf,pc,Aa,ca,At,ct,Al,cl,us',hA,hh,ht,he,hc,hrest⟩:=hR.out.next;subst hA;have hrest':=zi hrest;have hdt:Hid (t.dep<l0.dep∧e.dep<l0.dep∧r.dep≤l0.dep∧0<l0.dep):=zi (by have:=hdp.out;rw[Sl.dep_cons]at this;omega);have hrl:Hid (k+1+r.len=n):=zi (by have:=hln.out;simp only[Sl.len]at this;omega);obtain⟨Sx,hSx⟩:∃Sx:Nat→Prop,Sx=fun x=>(S x∨w.heap.size≤x)∧some x≠u6.ownBlock:=⟨_,rfl⟩
  have hin:∀x,x<w.heap.size→S x→Sx x:=fun x hx hs=>by rw[hSx];refine⟨.inl hs,fun e=> ?_⟩;have h1:=ownK_ge hO.out.own e.symm;have h2:=hw01.out;omega
  have hup:Hid (∀(wx:World) (x:Nat),wl.heap.size≤wx.heap.size→wx.heap.size≤x→Sx x):=zi fun wx x h1 h2=>by rw[hSx];exact⟨.inr (by have:=hB.out.bl.size;omega),own_lt hO.out.own (by omega)⟩
  have hSx':=zi hSx;obtain⟨wW,hwd⟩:∃y,y=wl.drew:=⟨_,rfl⟩
  have hbd:Below wl.heap.size wl wW:=by rw[hwd];exact(Below.refl _ wl).drew
  have hBW:=zi (hB.out.below hbd);have hOW:=zi (hO.out.below hbd);have hszW:=zi (show wl.heap.size≤wW.heap.size from hbd.size);have hin2:∀x,x<w.heap.size→S x→x<wW.heap.size∧Sx x:=fun x hx hs=>⟨Nat.lt_of_lt_of_le hx hBW.out.bl.size,hin x hx hs⟩;have hhW:=(hh.mono (S':=fun x=>x<wW.heap.size∧Sx x) hin2).keep fun x hx _=>hBW.out.bl.block x hx;have htW:=(ht.mono (S':=fun x=>x<wW.heap.size∧Sx x) hin2).keep fun x hx _=>hBW.out.bl.block x hx;have heW:=(he.mono (S':=fun x=>x<wW.heap.size∧Sx x) hin2).keep fun x hx _=>hBW.out.bl.block x hx;obtain⟨na,hna1⟩:∃y,y=h.args.length:=⟨_,rfl⟩;obtain⟨nt,hnt1⟩:∃y,y=t.len:=⟨_,rfl⟩;obtain⟨nl,hnl1⟩:∃y,y=e.len:=⟨_,rfl⟩;rw[←hna1]at hhW;rw[←hnt1]at htW;rw[←hnl1]at heW
  have hq:∀(wx:World),Below wW.heap.size wW wx→∀j (hj:j<10),wx.cell? ⟨b,off+k*10+j,none⟩=some ((stC h pe pf pc Aa At Al na ca nt ct nl cl)[j]'hj):=fun wx hx j hj=>by have h1:=((hBW.out.below (hx.mono (Nat.le_refl _))).bl.cell (p:=⟨b,off+k*10+j,none⟩) (lt_of_cell (hc j hj))).trans (hc j hj);rw[h1];subst hna1 hnt1 hnl1;rfl
  have hfc:Hid (∀wx,Below wW.heap.size wW wx→(wx.cell? ⟨gp,0,none⟩=some (.string (strV F.nm))∧wx.cell? ⟨gp,1,none⟩=some (.slice F.A1 F.ps.length F.c1)∧wx.cell? ⟨gp,2,none⟩=some (.slice F.A2 F.ls.length F.c2)∧wx.cell? ⟨gp,3,none⟩=some (.slice F.A3 F.n3 F.c3)∧gp<wx.heap.size)∧
    wx.cell? ⟨b,off+k*10,none⟩=some (.int .i64 h.k)∧wx.cell? ⟨b,off+k*10+1,none⟩=some (.string (strV h.x))∧wx.cell? ⟨b,off+k*10+2,none⟩=some (.string (strV h.y))∧wx.cell? ⟨b,off+k*10+3,none⟩=some (.pointer pe)∧wx.cell? ⟨b,off+k*10+4,none⟩=some (.pointer pf)∧wx.cell? ⟨b,off+k*10+5,none⟩=some (.pointer pc)∧wx.cell? ⟨b,off+k*10+6,none⟩=some (.slice Aa na ca)∧wx.cell? ⟨b,off+k*10+7,none⟩=some (.slice At nt ct)∧wx.cell? ⟨b,off+k*10+8,none⟩=some (.slice Al nl cl)∧wx.cell? ⟨b,off+k*10+9,none⟩=some (.int .i64 h.at_)∧b<wx.heap.size):=
   zi fun wx hx=>⟨(hBW.out.below hx).facts,hq wx hx 0 (by decide),hq wx hx 1 (by decide),hq wx hx 2 (by decide),hq wx hx 3 (by decide),hq wx hx 4 (by decide),hq wx hx 5 (by decide),hq wx hx 6 (by decide),hq wx hx 7 (by decide),hq wx hx 8 (by decide),hq wx hx 9 (by decide),lt_of_cell (hq wx hx 9 (by decide))⟩
  have hcall:Hid (∀(wx:World) (γ1:Option Nat),Below wW.heap.size wW wx→(∀g,γ1=some g→wW.heap.size≤g∧g<wx.heap.size)→Calls Tryz.prog 93 #[.agg #[.string (strV F.nm),.slice F.A1 F.ps.length F.c1,.slice F.A2 F.ls.length F.c2,.slice F.A3 F.n3 F.c3],.agg #[.int .i64 h.k,.string (strV h.x),.string (strV h.y),.pointer pe,.pointer pf,.pointer pc,.slice Aa na ca,.slice At nt ct,.slice Al nl cl,.int .i64 h.at_]] wx fun e' w1=>∃z:Zs,e'= .returned (.tuple #[.agg z.cells,.bool (stmtR F.K h).2])∧Below wx.heap.size wx w1∧OkZ Sx F.K h t e z w1 γ1):=
   zi fun wx γ1 hx hγ=>by
    refine(rstmt_any F wx h pe pf pc Aa At Al na ca nt ct nl cl (fun x=>x<wW.heap.size∧Sx x) (hBW.out.below hx).ok (hhW.keep fun x hx1 _=>hx.block x hx1)).mono ?_;rintro e' w1 ⟨h',pe',pf',pc',Aa',na',ca',At',nt',ct',Al',nl',cl',he',hb1,hok⟩
    have hFr:∀x,(x<wW.heap.size∧Sx x)∨wx.heap.size≤x→Fre Sx γ1 x:=fun x hx1=>by
     rcases hx1 with⟨h1,h2⟩|h1
     ·exact⟨h2,fun e1=>by have:=(hγ x e1).1;omega⟩
     ·exact⟨hup.out wx x (Nat.le_trans hszW.out hx.size) h1,fun e1=>by have:=(hγ x e1).2;omega⟩
    refine⟨⟨h',pe',pf',pc',Aa',na',ca',At',nt',ct',Al',nl',cl'⟩,he',hb1,fun hs=> ?_⟩;obtain⟨e1,hd1,ht1,hf1⟩:=hok hs;refine⟨e1,hd1.mono fun x _ hx1=>hFr x hx1,?_,?_⟩
    ·cases htn:turned F.K h with
     |true=>
      obtain⟨a1,a2,a3,-⟩:=ht1 htn;simp only[subT,htn,if_true,a1,a2,a3];exact SlAt.nil_ _ _
     |false=>
      obtain⟨a1,a2,a3,-⟩:=hf1 htn;simp only[subT,htn,a1,a2,a3];exact((htW.keep fun x hx1 _=>hx.block x hx1).mono fun x _ hx1=>hFr x (.inl hx1)).below hb1
    ·cases htn:turned F.K h with
     |true=>
      obtain⟨-,-,-,a1,a2,a3⟩:=ht1 htn;simp only[subT,htn,if_true,a1,a2,a3];exact SlAt.nil_ _ _
     |false=>
      obtain⟨-,-,-,a1,a2,a3⟩:=hf1 htn;simp only[subT,htn,a1,a2,a3];exact((heW.keep fun x hx1 _=>hx.block x hx1).mono fun x _ hx1=>hFr x (.inl hx1)).below hb1
  have hq0:=hq;clear hq;have hfd:=zi hwd.symm;have hbq:=zi (lt_of_cell (hq0 wW (Below.refl _ _) 9 (by decide)));clear hq0 hin hin2 hSx hwd hbd hhW htW heW hh ht he hc hrest hnt1 hnl1 hna1 hO hR;go_wp2_with fail;refine wp_region_tabG ((eqv (.agg #[.string (strV F.nm),.slice F.A1 F.ps.length F.c1,.slice F.A2 F.ls.length F.c2,.slice F.A3 F.n3 F.c3]))::(eqv (.slice (some ⟨b,off,none⟩) n c))::(eqv (.int .i64 k))::(eqv (.pointer (some ⟨b,off+k*10,none⟩)))::(eqv (.agg #[.int .i64 h.k,.string (strV h.x),.string (strV h.y),.pointer pe,.pointer pf,.pointer pc,.slice Aa na ca,.slice At nt ct,.slice Al nl cl,.int .i64 h.at_]))::(fun L (W:World×Gz) v=>L 5=true∧∃z:Zs,W.2.2=some z∧v= .tuple #[.agg z.cells,.bool (stmtR F.K h).2])::(fun L (W:World×Gz) v=>L 5=true∧∃z:Zs,W.2.2=some z∧v= .tuple #[.agg z.cells,.bool (stmtR F.K h).2])::(fun L (W:World×Gz) v=>L 5=true∧∃z:Zs,W.2.2=some z∧v= .agg z.cells)::(eqv (.bool (stmtR F.K h).2))::(fun L (W:World×Gz) v=>∃g,W.2.1=some g∧v= .pointer (some ⟨g,0,none⟩))::(fun _ _ _=>True)::(eqv (.bool (stmtR F.K h).2))::[])
   ((rn1 2)::(rn1 1)::(rn1 7)::⟨[(21,some 1),(22,some 2)],0,[]⟩::(rd1 23 3)::⟨[(20,some 0),(24,some 4)],0,[]⟩::(rd1 25 5)::(rd1 19 6)::(rd1 19 6)::⟨[],0,[]⟩::⟨[(8,some 9),(26,some 7)],0,[]⟩::(rd1 27 8)::[])
   (no::no::no::no::no::no::no::no::so 9::so 11::no::no::no::no::no::no::no::no::no::so 6::so 0::so 1::so 2::so 3::so 4::so 5::so 7::so 8::[])
   (fun L (W:World×Gz)=>CSt Sx F.K h t e wW L W) (fun i (W W':World×Gz)=>GSt i W W') ?mixK5sts ?okK5sts ?tabK5sts ?frK5sts ?inK5sts ?keptK5sts ((none,none):Gz) ?startK5sts ?eachK5sts ?finK5sts
  case mixK5sts|okK5sts|tabK5sts|frK5sts=>kernel_rfl
  case inK5sts=>rfl
  case keptK5sts=>exact⟨fun _ _ _ _ _ _ _ _ _ _ _ h=>h,fun _ _ _ _ _ _ _ _ _ _ _ h=>h,fun _ _ _ _ _ _ _ _ _ _ _ h=>h,fun _ _ _ _ _ _ _ _ _ _ _ h=>h,fun _ _ _ _ _ _ _ _ _ _ _ h=>h,fun i hne hrd L W W' v hLi hC hC' hG ⟨h5,z,h1,h2⟩=>by
     have n5:i≠5:=fun e=>by subst e;rw[h5]at hLi;cases hLi
     exact⟨by simp[h5],z,(hG.2 n5).trans h1,h2⟩,fun i hne hrd L W W' v hLi hC hC' hG ⟨h5,z,h1,h2⟩=>by
     have n5:i≠5:=fun e=>by subst e;rw[h5]at hLi;cases hLi
     exact⟨by simp[h5],z,(hG.2 n5).trans h1,h2⟩,fun i hne hrd L W W' v hLi hC hC' hG ⟨h5,z,h1,h2⟩=>by
     have n5:i≠5:=fun e=>by subst e;rw[h5]at hLi;cases hLi
     exact⟨by simp[h5],z,(hG.2 n5).trans h1,h2⟩,fun _ _ _ _ _ _ _ _ _ _ _ h=>h,fun i hne hrd L W W' v hLi hC hC' hG ⟨g,h1,h2⟩=>⟨g,(hG.1 hne).trans h1,h2⟩,fun _ _ _ _ _ _ _ _ _ _ _ h=>h,fun _ _ _ _ _ _ _ _ _ _ _ h=>h,trivial⟩
  case startK5sts=>exact CSt.start (by have e0:wW=wl.drew:=hfd.out.symm;rw[e0];exact Below.refl _ _) rfl rfl rfl
  case eachK5sts=>
   repeat' first|exact trivial|refine And.intro ?_ ?_
   ·intro w γ L f hC hLi hLd hLn ⟨a,_⟩;change _=_ at a;refine Step2.live rfl ?_;obtain⟨⟨p0,p1,p2,p3,pl⟩,q0,q1,q2,q3,q4,q5,q6,q7,q8,q9,ql⟩:=hfc.out w hC.bel;refine relUpon_ghost γ ?_;obtain⟨ev,ec,ef⟩:=evs f;refine relUpon_value ?_ (hC.other (i:=0) (by decide) (by decide) (by decide) (Below.refl _ _)) ⟨fun _=>rfl,fun _=>rfl⟩ rfl;go_simp
   ·intro w γ L f hC hLi hLd hLn ⟨d,_⟩;refine Step2.live rfl ?_;refine relUpon_ghost γ ?_;exact relUpon_value (v:=f 1) rfl (hC.other (i:=1) (by decide) (by decide) (by decide) (Below.refl _ _)) (⟨fun _=>rfl,fun _=>rfl⟩) d
   ·intro w γ L f hC hLi hLd hLn ⟨d,_⟩;refine Step2.live rfl ?_;refine relUpon_ghost γ ?_;exact relUpon_value (v:=f 7) rfl (hC.other (i:=2) (by decide) (by decide) (by decide) (Below.refl _ _)) (⟨fun _=>rfl,fun _=>rfl⟩) d
   ·intro w γ L f hC hLi hLd hLn ⟨a,b,_⟩;change _=_ at a b;refine Step2.live rfl ?_;obtain⟨⟨p0,p1,p2,p3,pl⟩,q0,q1,q2,q3,q4,q5,q6,q7,q8,q9,ql⟩:=hfc.out w hC.bel;refine relUpon_ghost γ ?_;obtain⟨ev,ec,ef⟩:=evs f;refine relUpon_value ?_ (hC.other (i:=3) (by decide) (by decide) (by decide) (Below.refl _ _)) ⟨fun _=>rfl,fun _=>rfl⟩ rfl;go_simp
   ·intro w γ L f hC hLi hLd hLn ⟨a,_⟩;change _=_ at a;refine Step2.live rfl ?_;obtain⟨⟨p0,p1,p2,p3,pl⟩,q0,q1,q2,q3,q4,q5,q6,q7,q8,q9,ql⟩:=hfc.out w hC.bel;refine relUpon_ghost γ ?_;obtain⟨ev,ec,ef⟩:=evs f;refine relUpon_value ?_ (hC.other (i:=4) (by decide) (by decide) (by decide) (Below.refl _ _)) ⟨fun _=>rfl,fun _=>rfl⟩ rfl;go_simp
   ·intro w γ L f hC hLi hLd hLn ⟨a,b,_⟩;change _=_ at a b;refine Step2.live rfl ?_
    have l10:L 10=false:=by
     cases q:L 10 with
     |false=>rfl
     |true=>have:=(hC.ord q).2;rw[hLi]at this;cases this
    obtain⟨ev,ec,ef⟩:=evs f
    have hz:=hcall.out w γ.1 hC.bel (fun g hg=>by
     cases q:L 9 with
     |false=>have:=hC.no q;simp only at this;rw[this]at hg;cases hg
     |true=>
      obtain⟨g',a,b,c,-⟩:=hC.made q;simp only at a;rw[a]at hg;cases hg
      exact⟨b,c⟩)
    refine relUpon_callG (f:=93) (args:= #[.agg #[.string (strV F.nm),.slice F.A1 F.ps.length F.c1,.slice F.A2 F.ls.length F.c2,.slice F.A3 F.n3 F.c3],.agg #[.int .i64 h.k,.string (strV h.x),.string (strV h.y),.pointer pe,.pointer pf,.pointer pc,.slice Aa na ca,.slice At nt ct,.slice Al nl cl,.int .i64 h.at_]]) (w:=w) (by go_simp) hz (fun e w1 ⟨z,he,hB,hk⟩=>⟨(γ.1,some z),_,he,hC.call l10 z hB hk,⟨fun _=>rfl,fun h=>absurd rfl h⟩,by simp,z,rfl,rfl⟩)
   ·intro w γ L f hC hLi hLd hLn ⟨d,_⟩;refine Step2.live rfl ?_;refine relUpon_ghost γ ?_;exact relUpon_value (v:=f 25) rfl (hC.other (i:=6) (by decide) (by decide) (by decide) (Below.refl _ _)) (⟨fun _=>rfl,fun _=>rfl⟩) d
   ·intro w γ L f hC hLi hLd hLn ⟨d19,_⟩;refine Step2.live rfl ?_;obtain⟨h5,z,hz,e19⟩:=d19;refine relUpon_ghost γ ?_;obtain⟨ev,ec,ef⟩:=evs f;refine relUpon_value (v:= .agg z.cells) ?_ (hC.other (i:=7) (by decide) (by decide) (by decide) (Below.refl _ _)) ⟨fun _=>rfl,fun _=>rfl⟩ ⟨by simp[h5],z,hz,rfl⟩;go_simp
   ·intro w γ L f hC hLi hLd hLn ⟨d19,_⟩;refine Step2.live rfl ?_;obtain⟨h5,z,hz,e19⟩:=d19;refine relUpon_ghost γ ?_;obtain⟨ev,ec,ef⟩:=evs f;refine relUpon_value ?_ (hC.other (i:=8) (by decide) (by decide) (by decide) (Below.refl _ _)) ⟨fun _=>rfl,fun _=>rfl⟩ rfl;go_simp
   ·intro w γ L f hC hLi hLd hLn hF;refine Step2.live rfl ?_;refine relUpon_ghost (some w.heap.size,γ.2) ?_;obtain⟨ev,ec,ef⟩:=evs f;refine relUpon_value (w':=w.alloc (.cells zeroS 63)) (v:= .pointer (some ⟨w.heap.size,0,none⟩)) (by unfold zeroS;go_simp) (hC.alloc hLi) ⟨fun h=>absurd rfl h,fun _=>rfl⟩ ⟨_,rfl,rfl⟩
   ·intro w γ L f hC hLi hLd hLn ⟨d8,d26,_⟩;refine Step2.live rfl ?_;obtain⟨g,hg,e8⟩:=d8;obtain⟨h5,z,hz,e26⟩:=d26;have hg:γ.1=some g:=hg;have hz:γ.2=some z:=hz;have l9:=hLd 9 (by decide);obtain⟨g',a,b',c',hZ⟩:=hC.made l9;obtain rfl:g=g':=Option.some.inj (hg.symm.trans a);have hZ:=hZ hLi;have c0:=hZ.cell 0;have z0:=hZ.frozen 0;have c1:=hZ.cell 1;have z1:=hZ.frozen 1;have c2:=hZ.cell 2;have z2:=hZ.frozen 2;have c3:=hZ.cell 3;have z3:=hZ.frozen 3;have c4:=hZ.cell 4;have z4:=hZ.frozen 4;have c5:=hZ.cell 5;have z5:=hZ.frozen 5;have c6:=hZ.cell 6;have z6:=hZ.frozen 6;have c7:=hZ.cell 7;have z7:=hZ.frozen 7;have c8:=hZ.cell 8;have z8:=hZ.frozen 8;have c9:=hZ.cell 9;have z9:=hZ.frozen 9;simp[zeroS]at c0 c1 c2 c3 c4 c5 c6 c7 c8 c9;unfold Zs.cells stC at e26;refine relUpon_ghost γ ?_;obtain⟨ev,ec,ef⟩:=evs f;refine relUpon_skip (w':=put10 w g (.int .i64 z.h.k) (.string (strV z.h.x)) (.string (strV z.h.y)) (.pointer z.pe) (.pointer z.pf) (.pointer z.pc) (.slice z.Aa z.na z.ca) (.slice z.At z.nt z.ct) (.slice z.Al z.nl z.cl) (.int .i64 z.h.at_)) ?_ (hC.stored hLi l9 h5 hg hz) ⟨fun _=>rfl,fun _=>rfl⟩ trivial;unfold put10;go_simp
   ·intro w γ L f hC hLi hLd hLn ⟨d,_⟩;refine Step2.live rfl ?_;refine relUpon_ghost γ ?_;exact relUpon_value (v:=f 27) rfl (hC.other (i:=11) (by decide) (by decide) (by decide) (Below.refl _ _)) (⟨fun _=>rfl,fun _=>rfl⟩) d
  intro x w' γ hC hV
  obtain⟨gS,hgS,e8⟩:=hV 9 _ rfl rfl;have e9:=hV 11 _ rfl rfl;clear hV hfd;obtain⟨g2,z,hg2,hz,hHo⟩:=hC.st rfl;obtain rfl:gS=g2:=Option.some.inj (hgS.symm.trans hg2);obtain⟨z2,hz2,hOk⟩:=hC.cl rfl;obtain rfl:z=z2:=Option.some.inj (hz.symm.trans hz2);obtain⟨g3,hg3,hg4,hg5,-⟩:=hC.made rfl;obtain rfl:gS=g3:=Option.some.inj (hgS.symm.trans hg3);simp only at hgS;rw[hgS]at hOk;have hbl:=zi hC.bel;replace hHo:=zi hHo;replace hOk:=zi hOk;replace hg4:=zi hg4;clear hC hg2 hg3 hz hz2 hgS;rename World=>w5;obtain⟨v8,hv8⟩:∃y,y=x 9:=⟨_,rfl⟩;obtain⟨v9,hv9⟩:∃y,y=x 11:=⟨_,rfl⟩;simp only[framed];rw[←hv8,←hv9];rw[←hv8]at e8;rw[←hv9]at e9;clear hv8 hv9;subst e8 e9
  cases hs:(stmtR F.K h).2 with
  |false=>
   obtain⟨⟨p0,p1,p2,p3,pl⟩,-,-,-,-,-,-,-,-,-,q9,ql⟩:=hfc.out w5 hbl.out;have hF2:Hid (R=(.nil,some h.at_)):=zi (by rw[←hRe.out,stmtsR_bad hs];rfl);have hs':=zi hs;clear hs hcall hfc;go_wp2_with fail;go_quiet (fail);go_wp2_with fail
   go_ret2
   rw[hF2.out];exact⟨_,rfl,SlAt.nil_ _ _,(hBW.out.below hbl.out).bl.trans ((below_drewN (Below.refl _ _) _).mono (Nat.le_trans hw01.out (Nat.le_trans hsz.out (Nat.le_trans hszW.out hbl.out.size))))⟩
  |true=>
   obtain⟨zh,zpe,zpf,zpc,zAa,zna,zca,zAt,znt,zct,zAl,znl,zcl⟩:=z;obtain⟨ez,hHd,hTt,hTe⟩:=hOk.out hs;simp only at ez hHd hTt hTe;simp only[Zs.cells,stC]at hHo
   have hdT:(subT F.K h t).dep<l0.dep∧(subT F.K h e).dep<l0.dep:=by
    unfold subT
    cases turned F.K h with
    |true=>exact⟨hdt.out.2.2.2,hdt.out.2.2.2⟩
    |false=>exact⟨hdt.out.1,hdt.out.2.1⟩
   have hR5:=hBW.out.below hbl.out;have hup5:∀x,w5.heap.size≤x→Fre Sx (some gS) x:=fun x hx=>⟨hup.out w5 x (Nat.le_trans hszW.out hbl.out.size) hx,fun e1=>by have:=hHo.out.lt;cases e1;omega⟩;obtain⟨⟨lT,aT⟩,hRT⟩:∃y,y=stmtsR F.K (subT F.K h t):=⟨_,rfl⟩;obtain⟨⟨lE,aE⟩,hRE⟩:∃y,y=stmtsR F.K (subT F.K h e):=⟨_,rfl⟩;have hcT:=hih.out (subT F.K h t) hdT.1 w5 (.slice zAt znt zct) (Fre Sx (some gS)) hR5.ok hTt;have hcE:∀wx,Below w5.heap.size w5 wx→_:=fun wx hx=>hih.out (subT F.K h e) hdT.2 wx (.slice zAl znl zcl) (Fre Sx (some gS)) (hR5.below hx).ok (hTe.below hx);rw[←hRT]at hcT;rw[←hRE]at hcE
   have h2:(stmtsR F.K (subT F.K h t)).2=aT:=by rw[←hRT]
   have h3:(stmtsR F.K (subT F.K h e)).2=aE:=by rw[←hRE]
   have h4:(stmtsR F.K (subT F.K h t)).1=lT:=by rw[←hRT]
   have h5:(stmtsR F.K (subT F.K h e)).1=lE:=by rw[←hRE]
   clear hRT hRE;obtain⟨⟨p0,p1,p2,p3,pl⟩,-⟩:=hfc.out w5 hbl.out;have c7:w5.cell? ⟨gS,7,none⟩=some (.slice zAt znt zct):=hHo.out.cell 7;have hgl:=hHo.out.lt;unfold FnV.cells at hcT hcE;have hs':=zi hs;replace hcE:=zi hcE;replace hup5:=zi hup5;replace hHd:=zi hHd;replace ez:=zi ez;replace h3:=zi h3;replace h4:=zi h4;replace h5:=zi h5;replace hR5:=zi hR5;clear hs hcall hTt hTe hOk hdT
   cases aT with
   |some a=>
    have hF2:Hid (R=(.nil,some a)):=zi (by rw[←hRe.out,stmtsR_t hs'.out h2];rfl)
    have hge:(0:Int)≤a:=by omega
    simp only[atI]at hcT;replace hcT:=zi hcT;clear h2;go_wp2_with fail;refine hcT.out.mono ?_;rintro e6 w6 ⟨vT,rfl,-,hb6⟩;have hB6:=zi (hR5.out.below hb6).bl;clear hb6 p0 p1 p2 p3 pl c7;go_wp2_with fail
    go_ret2
    rw[hF2.out];exact⟨_,rfl,SlAt.nil_ _ _,hB6.out⟩
   |none=>
    simp only[atI]at hcT;replace hcT:=zi hcT;replace h2:=zi h2;go_wp2_with fail;refine hcT.out.mono ?_;clear hcT;rintro e6 w6 ⟨vT,rfl,hT6,hb6⟩;clear p0 p1 p2 p3 pl c7;have hR6:=hR5.out.below hb6;obtain⟨p0,p1,p2,p3,pl⟩:=hR6.facts;have hcE6:=hcE.out w6 hb6;have hH6:=hHo.out.below hb6 hHo.out.lt;have c8:w6.cell? ⟨gS,8,none⟩=some (.slice zAl znl zcl):=hH6.cell 8;have hgl6:=hH6.lt;replace hT6:=zi hT6;replace hR6:=zi hR6;replace hH6:=zi hH6;replace hb6:=zi hb6;have hB6:=zi hR6.out.bl
    cases aE with
    |some a=>
     have hF2:Hid (R=(.nil,some a)):=zi (by rw[←hRe.out,stmtsR_e hs'.out h2.out h3.out];rfl)
     have hge:(0:Int)≤a:=by omega
     simp only[atI]at hcE6;replace hcE6:=zi hcE6;clear hcE h3;go_wp2_with fail;refine hcE6.out.mono ?_;rintro e7 w7 ⟨vE,rfl,-,hb7⟩;have hB7:=zi (hR6.out.below hb7).bl;clear hb7 p0 p1 p2 p3 pl c8;go_wp2_with fail
     go_ret2
     rw[hF2.out];exact⟨_,rfl,SlAt.nil_ _ _,hB7.out⟩
    |none=>
     simp only[atI]at hcE6;replace hcE6:=zi hcE6;clear hcE;go_wp2_with fail;refine hcE6.out.mono ?_;clear hcE6;rintro e7 w7 ⟨vE,rfl,hE7,hb7⟩;clear p0 p1 p2 p3 pl c8;have hH7:=hH6.out.below hb7 hH6.out.lt;have hb57:=hb6.out.trans (hb7.mono hb6.out.size);have hbW7:=hbl.out.trans (hb57.mono hbl.out.size);have hT7:=(hT6.out.mono (S':=Fre Sx (some gS)) (fun x _ hx=>hx.elim id fun h1=>hup5.out x h1)).below hb7;have hE7':=hE7.mono (S':=Fre Sx (some gS)) (fun x _ hx=>hx.elim id fun h1=>hup5.out x (Nat.le_trans hb6.out.size h1));have hHd7:=hHd.out.below hb57;obtain⟨AT,cT,eT⟩:=SlAt.slice_ hT7;obtain⟨AE,cE,eE⟩:=SlAt.slice_ hE7';rw[eT]at hT7;rw[eE]at hE7';rw[eT,eE];have hW8:Writes [some gS] w7 ((w7.setCell ⟨gS,7,none⟩ (.slice AT lT.len cT)).setCell ⟨gS,8,none⟩ (.slice AE lE.len cE)):=(Writes.store w7 (by simp) _).trans (Writes.store _ (by simp) _);have hH8:=(hH7.store 7 (.slice AT lT.len cT)).store 8 (.slice AE lE.len cE);have hbW8:=hbW7.trans (hW8.below hbW7.size (fun k hk=>by simp at hk;rw[hk];exact hg4.out))
     have hk8:∀x,x<w7.heap.size→Fre Sx (some gS) x→((w7.setCell ⟨gS,7,none⟩ (.slice AT lT.len cT)).setCell ⟨gS,8,none⟩ (.slice AE lE.len cE)).heap[x]? =w7.heap[x]? :=fun x hx hS=>hW8.block x hx (by simp;exact fun e1=>hS.2 (by rw[e1]));have hT8:=hT7.keep hk8;have hE8:=hE7'.keep hk8;have hHd8:=hHd7.keep hk8;have z7:=hH7.frozen 7;have z8:=(hH7.store 7 (.slice AT lT.len cT)).frozen 8;have z8':=hH7.frozen 8;have hgl7:=hH7.lt;have c7:w7.cell? ⟨gS,7,none⟩=some (.slice zAt znt zct):=hH7.cell 7;have c8:w7.cell? ⟨gS,8,none⟩=some (.slice zAl znl zcl):=hH7.cell 8;obtain⟨w8,hw8⟩:∃y,y=(w7.setCell ⟨gS,7,none⟩ (.slice AT lT.len cT)).setCell ⟨gS,8,none⟩ (.slice AE lE.len cE):=⟨_,rfl⟩;rw[←hw8]at hH8 hbW8 hT8 hE8 hHd8;have hR8:=zi (hBW.out.below hbW8);have hO8:=zi (hOW.out.below hbW8);have hs8:=zi (show w1.heap.size≤w8.heap.size from Nat.le_trans hsz.out (Nat.le_trans hszW.out hbW8.size));simp at hH8;replace hT8:=zi hT8;replace hE8:=zi hE8;replace hHd8:=zi hHd8;replace hH8:=zi hH8;replace hw8:=zi hw8;clear hT7 hE7' hE7 hHd7 hW8 hbW8 hk8 hbW7 hb57 hb7 hH7 eT eE;go_upto_region 15 with(fail)
     rw[←hw8.out];clear z7 z8 z8' c7 c8 hgl7 hw8;have c0:w8.cell? ⟨gS,0,none⟩=some (.int .i64 zh.k):=hH8.out.cell 0;have c1:w8.cell? ⟨gS,1,none⟩=some (.string (strV zh.x)):=hH8.out.cell 1;have c2:w8.cell? ⟨gS,2,none⟩=some (.string (strV zh.y)):=hH8.out.cell 2;have c3:w8.cell? ⟨gS,3,none⟩=some (.pointer zpe):=hH8.out.cell 3;have c4:w8.cell? ⟨gS,4,none⟩=some (.pointer zpf):=hH8.out.cell 4;have c5:w8.cell? ⟨gS,5,none⟩=some (.pointer zpc):=hH8.out.cell 5;have c6:w8.cell? ⟨gS,6,none⟩=some (.slice zAa zna zca):=hH8.out.cell 6;have c7:w8.cell? ⟨gS,7,none⟩=some (.slice AT lT.len cT):=hH8.out.cell 7;have c8:w8.cell? ⟨gS,8,none⟩=some (.slice AE lE.len cE):=hH8.out.cell 8;have c9:w8.cell? ⟨gS,9,none⟩=some (.int .i64 zh.at_):=hH8.out.cell 9;have hgl8:=hH8.out.lt;have hbn:=below_new w8 (.cells #[.int .i64 zh.k,.string (strV zh.x),.string (strV zh.y),.pointer zpe,.pointer zpf,.pointer zpc,.slice zAa zna zca,.slice AT lT.len cT,.slice AE lE.len cE,.int .i64 zh.at_] 63);have hOn:=zi (hO8.out.below hbn)
     have hnews:Hid (∀(j:Nat) u,([.int .i64 zh.k,.string (strV zh.x),.string (strV zh.y),.pointer zpe,.pointer zpf,.pointer zpc,.slice zAa zna zca,.slice AT lT.len cT,.slice AE lE.len cE,.int .i64 zh.at_]:List Value)[j]? =some u→(w8.alloc (.cells #[.int .i64 zh.k,.string (strV zh.x),.string (strV zh.y),.pointer zpe,.pointer zpf,.pointer zpc,.slice zAa zna zca,.slice AT lT.len cT,.slice AE lE.len cE,.int .i64 zh.at_] 63)).cell? ((⟨w8.heap.size,0,none⟩:Addr).add j)=some u):=zi (fun j u hu=>by
      have hh:=Holds.new w8 63 #[.int .i64 zh.k,.string (strV zh.x),.string (strV zh.y),.pointer zpe,.pointer zpf,.pointer zpc,.slice zAa zna zca,.slice AT lT.len cT,.slice AE lE.len cE,.int .i64 zh.at_]
      have hadd:(⟨w8.heap.size,0,none⟩:Addr).add j=⟨w8.heap.size,j,none⟩:=by unfold Addr.add;split<;>simp_all
      rw[hadd,hh.cell]
      simpa using hu)
     have hone:Hid (∀u∈([.int .i64 zh.k,.string (strV zh.x),.string (strV zh.y),.pointer zpe,.pointer zpf,.pointer zpc,.slice zAa zna zca,.slice AT lT.len cT,.slice AE lE.len cE,.int .i64 zh.at_]:List Value),u.oneCell'=true):=zi (by simp;exact⟨rfl,rfl,rfl,rfl,rfl,rfl,rfl,rfl,rfl,rfl⟩);have hszn:Hid (w1.heap.size≤(w8.alloc (.cells #[.int .i64 zh.k,.string (strV zh.x),.string (strV zh.y),.pointer zpe,.pointer zpf,.pointer zpc,.slice zAa zna zca,.slice AT lT.len cT,.slice AE lE.len cE,.int .i64 zh.at_] 63)).heap.size):=zi (Nat.le_trans hs8.out hbn.size);have hRn:=zi (hR8.out.below hbn)
     have hSS:∀x,x<w8.heap.size→Fre Sx (some gS) x→(S x∨w.heap.size≤x)∧some x≠u6.ownBlock:=fun x _ hx=>by have h1:=hx.1;rw[hSx'.out]at h1;exact h1
     have hT9:=zi (hT8.out.mono hSS);have hE9:=zi (hE8.out.mono hSS);have hH9:=zi (hHd8.out.mono hSS);have hO9:=hO8.out.own;rw[hdl.out]at hO9;have hOm:Hid ((w8.alloc (.cells #[.int .i64 zh.k,.string (strV zh.x),.string (strV zh.y),.pointer zpe,.pointer zpf,.pointer zpc,.slice zAa zna zca,.slice AT lT.len cT,.slice AE lE.len cE,.int .i64 zh.at_] 63)).ownsRow w1.heap.size 63 10 u6 k us):=zi (own_below hO9 hbn)
     have hRe2:Hid (catR (d.snoc zh lT lE) (stmtsR F.K r)=R):=zi (by
      have e1:=stmtsR_ok (K:=F.K) (h:=h) (t:=t) (e:=e) (r:=r) d hs'.out h2.out h3.out;rw[h4.out,h5.out,←ez.out]at e1;rw[←e1]
      exact hRe.out)
     replace hbn:=zi hbn;clear hO9 hSS hT8 hE8 hHd8 hH8 hOn hR8;go_wp2_with
      (at_builtin
       go_loud (refine wpList_append_own_at _ rfl (.tmp 59) (.tmp 61) 24 rfl w1.heap.size 63 iA _ 10 144 rfl hiA hzA0 hzA1 hzA2 rfl (by omega) u6 k us rfl hOm.out ⟨w8.heap.size,0,none⟩ 1 1 [.int .i64 zh.k,.string (strV zh.x),.string (strV zh.y),.pointer zpe,.pointer zpf,.pointer zpc,.slice zAa zna zca,.slice AT lT.len cT,.slice AE lE.len cE,.int .i64 zh.at_] rfl rfl hnews.out hone.out (by unfold maxLen;omega) (by omega) hszn.out ?_)
       go_loud (
        intro v9 w9 ho9 hg9 _ hv9;have hO9:Hid (OutS S w.heap.size w1.heap.size (d.snoc zh lT lE) v9 (us++ [.int .i64 zh.k,.string (strV zh.x),.string (strV zh.y),.pointer zpe,.pointer zpf,.pointer zpc,.slice zAa zna zca,.slice AT lT.len cT,.slice AE lE.len cE,.int .i64 zh.at_]) w9):=zi (hO8.out.push (h:=zh) hH9.out hT9.out hE9.out hbn.out hg9 hv9 (by rw[hdl.out];exact ho9));have hB9:=(Writes.of_grown hg9 (M:= [u6.ownBlock]) (by simp)).below hszn.out (fun q hq=>ownK_ge hOm.out (List.mem_singleton.1 hq).symm);have hBl:=hRn.out.bl.trans (hB9.mono hw01.out);have hR9:Hid (RfB F gp w w9):=zi ⟨hRn.out.hg.below hB9 hgw.out,hF'.out.below hBl,hBl⟩;have hs9:Hid (w1.heap.size≤w9.heap.size):=zi (Nat.le_trans hszn.out hg9.size)
        clear ho9 hg9 hv9 hB9 hBl))
     exact⟨⟨k+1,r,_,us',_,by omega,by simp,hrest',hO9,hRe2,hrl,zi hdt.out.2.2.1,hR9,zi (by rw[Sl.snoc_len,hdl.out]),hs9⟩,by simp[intOf];omega⟩
theorem rstmts_dep (F:FnV):∀(m:Nat) (l:Sl),l.dep<m→RSt F l
 |0,_,h=>absurd h (Nat.not_lt_zero _)
 |m+1,l,h=>rstmts_step F l fun l' h'=>rstmts_dep F m l' (by omega)
theorem rstmts_any (F:FnV) (l:Sl):RSt F l:=rstmts_dep F (l.dep+1) l (Nat.lt_succ_self _)
def endR (f:Fnc):Sl×Option Nat→Fnc×Int×Nat
 | (_,some a)=>(Fnc.none,a,61)
 | (b,none)=>(⟨f.nm,f.ps,f.ls,b⟩,0,0)
def resR (f:Fnc):Fnc×Int×Nat:=if dupB (fNames (f.ps++f.ls))then(Fnc.none,-1,60)else endR f (stmtsR (kindL (f.ps++f.ls)) f.body)
def resolveR (f:Fnc) (unit:S):Fnc×Int×Nat:=if f.nm≠unit∨f.nm=globS then(Fnc.none,-1,62)else resR f
theorem resolve10_unit (w:World) (f:Fnc) (unit:S) (h:f.nm≠unit∨f.nm=globS) (A1 A2 A3:Option Addr) (n1 n2 n3 c1 c2 c3:Nat):
  Calls Tryz.prog 11 #[.agg (fnC f.nm A1 A2 A3 n1 c1 n2 c2 n3 c3),.string (strV unit)] w (ResPost (Fnc.none,-1,62) w):=by
 have hb:=((Below.refl w.heap.size w).alloc (Nat.le_refl _) (.cells (fnC f.nm A1 A2 A3 n1 c1 n2 c2 n3 c3) 26)).alloc (by simp) (.cells #[.string ⟨#[]⟩,.slice none 0 0,.slice none 0 0,.slice none 0 0] 26);have hn:=(Holds.new (w.alloc (.cells (fnC f.nm A1 A2 A3 n1 c1 n2 c2 n3 c3) 26)) 26 #[.string ⟨#[]⟩,.slice none 0 0,.slice none 0 0,.slice none 0 0]);rw[show(w.alloc (.cells (fnC f.nm A1 A2 A3 n1 c1 n2 c2 n3 c3) 26)).heap.size=w.heap.size+1 by simp]at hn;have hb':=zi (ResPost.no w _ (-1) 62 hb);have hn':=zi hn;clear hb hn;unfold fnC at hb' hn'⊢;by_cases h1:f.nm=unit
 ·have h2:f.nm=globS:=by rcases h with h|h;exact absurd h1 h;exact h
  subst h1
  have h3:((strV f.nm).toList== [103,108,111,98,97,108,115])=true:=by rw[h2];simp[globS,strV_toList]
  clear h2 h;go_enter Tryz.func11,Tryz.ntmps11;go_wp2_with fail;exact ret_cell3 rfl rfl rfl hn'.out Tryz.underlying26 Tryz.sFunc hb'.out
 ·have h3:=strV_nb h1;clear h1 h;go_enter Tryz.func11,Tryz.ntmps11;go_wp2_with fail;exact ret_cell3 rfl rfl rfl hn'.out Tryz.underlying26 Tryz.sFunc hb'.out
theorem dup_found {l:List S} {i j:Nat} (hij:i<j) (hj:j<l.length) (h:l[i]'(by omega)=l[j]):dupB l=true:=by
 cases hd:dupB l with
 |true=>rfl
 |false=>
  have hn:=(dupB_nodup l).1 hd;exact absurd h (List.pairwise_iff_getElem.1 hn i j (by omega) hj hij)
theorem nodup_step {l:List S} {k:Nat} (hk:k<l.length) (h:(l.take k).Nodup) (h2:∀j (hj:j<k),l[j]'(by omega)≠l[k]):(l.take (k+1)).Nodup:=by
 rw[List.take_succ_eq_append_getElem hk,List.nodup_append];refine⟨h,by simp,?_⟩;intro a ha b hb;simp at hb;subst hb;obtain⟨j,hj,e⟩:=List.getElem_of_mem ha;rw[List.length_take]at hj;rw[List.getElem_take]at e;rw[←e];exact h2 j (by omega)
theorem resolve10_go (w:World) (f:Fnc) (hg:f.nm≠globS) (A1 A2 A3:Option Addr) (c1 c2 c3:Nat) (hF:FnAt w Evr f (.slice A1 f.ps.length c1) (.slice A2 f.ls.length c2) (.slice A3 f.body.len c3)):
  Calls Tryz.prog 11 #[.agg (fnC f.nm A1 A2 A3 f.ps.length c1 f.ls.length c2 f.body.len c3),.string (strV f.nm)] w (ResPost (resR f) w):=by
 obtain⟨iA,hiA,hzA0,hzA1,hzA2⟩:=info_parts Tryz.clVar;obtain⟨nm,ps,ls,body⟩:=f;simp only at hg hF⊢;obtain⟨hnm,h1,h2,hB⟩:=hF;simp only at hnm h1 h2 hB;obtain⟨R,hR⟩:∃R,R=resR ⟨nm,ps,ls,body⟩:=⟨_,rfl⟩;rw[←hR];have hR':=zi hR
 have hgl:((strV nm).toList== [103,108,111,98,97,108,115])=false:=by rw[strV_toList];simpa[globS]using hg
 clear hR hg
 have hlen1:ps.length≤100000:=by obtain⟨_,_,_,a1,_⟩:=h1;exact a1
 have hlen2:ls.length≤100000:=by obtain⟨_,_,_,a1,_⟩:=h2;exact a1
 have hr1:Hid (RowS w Evr A1 (ps.flatMap Vr.cells)):=zi (by obtain⟨_,_,e,_,_,a1,_⟩:=h1;injection e with e;subst e;exact a1);have hr2:Hid (RowS w Evr A2 (ls.flatMap Vr.cells)):=zi (by obtain⟨_,_,e,_,_,a1,_⟩:=h2;injection e with e;subst e;exact a1);obtain⟨F,hF0⟩:∃F:FnV,F=⟨nm,ps,ls,A1,A2,A3,c1,c2,body.len,c3⟩:=⟨_,rfl⟩
 have hFok:F.ok w:=by rw[hF0];exact⟨h1,h2⟩
 have hFK:Hid (F.K=kindL (ps++ls)):=zi (by rw[hF0];rfl);have hcs:=rstmts_any F body;unfold RSt at hcs
 have hFc:F.cells= #[.string (strV nm),.slice A1 ps.length c1,.slice A2 ls.length c2,.slice A3 body.len c3]:=by rw[hF0];rfl
 rw[hFc]at hcs;have hl1:Hid ((ps.flatMap Vr.cells).length=ps.length*2):=zi (vr_len ps);have hl2:Hid ((ls.flatMap Vr.cells).length=ls.length*2):=zi (vr_len ls);unfold fnC;obtain⟨n1,hn1⟩:∃y,y=ps.length:=⟨_,rfl⟩;obtain⟨n2,hn2⟩:∃y,y=ls.length:=⟨_,rfl⟩;obtain⟨n3,hn3⟩:∃y,y=body.len:=⟨_,rfl⟩;rw[←hn1,←hn2,←hn3]at hcs⊢;rw[←hn1]at h1 hlen1 hl1;rw[←hn2]at h2 hlen2 hl2;rw[←hn3]at hB;obtain⟨w2,hw2⟩:∃x,x=(w.alloc (.cells #[.string (strV nm),.slice A1 n1 c1,.slice A2 n2 c2,.slice A3 n3 c3] 26)).alloc (.cells #[.string ⟨#[]⟩,.slice none 0 0,.slice none 0 0,.slice none 0 0] 26):=⟨_,rfl⟩;obtain⟨gp,hgp⟩:∃x,x=w.heap.size:=⟨_,rfl⟩;obtain⟨gr,hgr⟩:∃x,x=w.heap.size+1:=⟨_,rfl⟩
 have hV:RvW gp gr #[.string (strV nm),.slice A1 n1 c1,.slice A2 n2 c2,.slice A3 n3 c3] w w2:=by
  refine⟨?_,?_,?_,by omega,by omega,by omega⟩
  ·rw[hw2,hgp];exact(Holds.new w _ _).alloc _
  ·rw[hw2,hgr];have:=Holds.new (w.alloc (.cells #[.string (strV nm),.slice A1 n1 c1,.slice A2 n2 c2,.slice A3 n3 c3] 26)) 26 zero4
   have e:(w.alloc (.cells #[.string (strV nm),.slice A1 n1 c1,.slice A2 n2 c2,.slice A3 n3 c3] 26)).heap.size=w.heap.size+1:=by simp
   rw[e]at this;exact this
  ·rw[hw2];exact((Below.refl _ _).alloc (Nat.le_refl _) _).alloc (by simp) _
 obtain⟨wW,hwW⟩:∃y,y=w2.drew:=⟨_,rfl⟩
 have hbd:Below w2.heap.size w2 wW:=by rw[hwW];exact(Below.refl _ w2).drew
 have hVW:=zi (hV.below hbd);have hbW:=zi hVW.out.bl
 have hfc:Hid (∀w',Below wW.heap.size wW w'→w'.cell? ⟨gp,1,none⟩=some (.slice A1 n1 c1)∧w'.cell? ⟨gp,2,none⟩=some (.slice A2 n2 c2)∧gp<w'.heap.size):=zi fun w' hb=>by have h:=(hVW.out.below hb).hp;exact⟨h.cell 1,h.cell 2,h.lt⟩
 have hgo:Hid (Below wW.heap.size wW w2.drew):=zi (by rw[←hwW];exact Below.refl _ _);have hln:Hid ((fNames (ps++ls)).length=n1+n2):=zi (by unfold fNames;rw[List.length_map,List.length_append,hn1,hn2]);have h1':=zi h1;have h2':=zi h2;have hB':=zi hB;have hn1':=zi hn1;have hn2':=zi hn2;have hn3':=zi hn3;have hfo:=zi hw2.symm;have hgp':=zi hgp.symm;have hgr':=zi hgr.symm;have hnm':=zi hnm;have hFok':=zi hFok;have hcs':=zi hcs;clear hw2 hgp hgr h1 h2 hB hn1 hn2 hn3 hnm hV hwW hbd hFok hcs hF0 hFc;go_enter Tryz.func11,Tryz.ntmps11;go_wp2_with fail;rw[hfo.out,hgp'.out];rw[show gp+1=gr from by rw[←hgp'.out];exact hgr'.out];clear hfo
 refine wp_region_tabL ((eqv (.pointer (some ⟨gp,1,none⟩)))::(eqv (.slice A1 n1 c1))::(fun L w v=>L 5=false→w.ownsRow wW.heap.size 79 2 v n1 (ps.flatMap Vr.cells))::(eqv (.pointer (some ⟨gp,2,none⟩)))::(eqv (.slice A2 n2 c2))::(fun L w v=>L 2=true∧L 5=true∧w.ownsRow wW.heap.size 79 2 v (n1+n2) ((ps++ls).flatMap Vr.cells))::(fun L w v=>L 2=true∧L 5=true∧w.ownsRow wW.heap.size 79 2 v (n1+n2) ((ps++ls).flatMap Vr.cells))::[])
  ((rn1 2)::(rd1 22 0)::(rd1 23 1)::(rn1 2)::(rd1 25 3)::⟨[(24,some 2),(26,some 4)],0,[]⟩::(rd1 27 5)::[])
  (no::no::no::no::no::no::no::so 6::no::no::no::no::no::no::no::no::no::no::no::no::no::no::so 0::so 1::so 2::so 3::so 4::so 5::[])
  (fun _ w'=>Below wW.heap.size wW w') (fun i w w'=>i≠2→i≠5→w'=w) ?mixK3 ?okK3 ?tabK3 ?frK3 ?inK3 ?keptK3 ?startK3 ?eachK3 ?finK3
 case mixK3|okK3|tabK3|frK3=>kernel_rfl
 case inK3=>rfl
 case keptK3=>exact⟨fun _ _ _ _ _ _ _ _ _ _ _ h=>h,fun _ _ _ _ _ _ _ _ _ _ _ h=>h,fun i hne hr L w w' v hLi hC hC' hG h h1=>by
    have h5:i≠5:=fun e=>by subst e;simp at h1
    have n5:(5==i)=false:=by simpa using fun e=>h5 e.symm
    have a1:L 5=false:=by simpa[n5]using h1
    rw[hG (fun e=>hne e) h5]
    exact h a1,fun _ _ _ _ _ _ _ _ _ _ _ h=>h,fun _ _ _ _ _ _ _ _ _ _ _ h=>h,fun i hne hr L w w' v hLi hC hC' hG h=>by
    have h2:i≠2:=fun e=>by subst e;rw[h.1]at hLi;cases hLi
    have h5:i≠5:=fun e=>by subst e;rw[h.2.1]at hLi;cases hLi
    rw[hG h2 h5]
    exact⟨by simp[h.1],by simp[h.2.1],h.2.2⟩,fun i hne hr L w w' v hLi hC hC' hG h=>by
    have h2:i≠2:=fun e=>by subst e;rw[h.1]at hLi;cases hLi
    have h5:i≠5:=fun e=>by subst e;rw[h.2.1]at hLi;cases hLi
    rw[hG h2 h5]
    exact⟨by simp[h.1],by simp[h.2.1],h.2.2⟩,trivial⟩
 case startK3=>exact hgo.out
 case eachK3=>
  refine⟨?_,?_,?_,?_,?_,?_,?_,trivial⟩
  iterate 2 (intro w L f hC hLi hLd hLn ⟨a,_⟩;change _=_ at a;refine Step2.live rfl ?_;have qq:=hfc.out w hC;obtain⟨q1,q2,ql⟩:=qq;obtain⟨ev,ec,ef⟩:=evs f;refine relUpon_value ?_ hC (fun _ _=>rfl) rfl;go_simp)
  ·intro w L f hC hLi hLd hLn ⟨d23,_⟩;change _=_ at d23;refine Step2.live rfl ?_;obtain⟨ev,ec,ef⟩:=evs f;refine relUpon_append_rowS w (.const (.slice none 0 0)) (.tmp 23) 23 rfl wW.heap.size 79 iA _ 2 24 Tryz.underlying23 hiA hzA0 hzA1 hzA2 rfl (by omega) (.slice none 0 0) 0 [] (by rw[ec]) (World.ownsRow_nil _ _ _ _) A1 n1 c1 (ps.flatMap Vr.cells) (by rw[ev,d23]) hl1.out (hr1.out.up (hbW.out.trans (hC.mono hbW.out.size))) (vr_one ps) (by unfold maxLen;omega) (by omega) hC.size ?_;intro v' w' ho hg;have hb:Below w.heap.size w w':=⟨hg.os,hg.tape,hg.output,hg.size,fun k hk=>hg.block k hk (by simp[Value.ownBlock])⟩;exact⟨hC.trans (hb.mono hC.size),fun h=>absurd rfl h,fun _=>by simpa using ho⟩
  iterate 2 (intro w L f hC hLi hLd hLn ⟨a,_⟩;change _=_ at a;refine Step2.live rfl ?_;have qq:=hfc.out w hC;obtain⟨q1,q2,ql⟩:=qq;obtain⟨ev,ec,ef⟩:=evs f;refine relUpon_value ?_ hC (fun _ _=>rfl) rfl;go_simp)
  ·intro w L f hC hLi hLd hLn ⟨d24,d26,_⟩;change _=_ at d26;refine Step2.live rfl ?_;have l2:L 2=true:=hLd 2 (by decide);have ho1:=d24 hLi;obtain⟨ev,ec,ef⟩:=evs f;refine relUpon_append_rowS w (.tmp 24) (.tmp 26) 23 rfl wW.heap.size 79 iA _ 2 24 Tryz.underlying23 hiA hzA0 hzA1 hzA2 rfl (by omega) (f 24) n1 (ps.flatMap Vr.cells) (by rw[ev]) ho1 A2 n2 c2 (ls.flatMap Vr.cells) (by rw[ev,d26]) hl2.out (hr2.out.up (hbW.out.trans (hC.mono hbW.out.size))) (vr_one ls) (by unfold maxLen;omega) (by omega) hC.size ?_;intro v' w' ho hg;exact⟨hC.grown hg hC.size (fun g hg=>(ho1.lt g hg).1),fun _ h=>absurd rfl h,by simp[l2],by simp,by rw[List.flatMap_append];exact ho⟩
  ·intro w L f hC hLi hLd hLn ⟨d,_⟩;refine Step2.live rfl ?_;exact relUpon_value (v:=f 27) rfl (hC) (fun _ _=>rfl) d
 intro x w' hC hV
 obtain⟨-,-,ho⟩:=hV 6 _ rfl rfl;clear hV;obtain⟨vv,hvv⟩:∃v,v=x 6:=⟨_,rfl⟩;rw[←hvv]at ho;simp only[framed];rw[←hvv];clear hvv;rename World=>w3;have hV3:=zi (hVW.out.below hC);clear hC;obtain⟨N,hN⟩:∃y,y=n1+n2:=⟨_,rfl⟩;rw[←hN]at ho hln;obtain⟨vA,vc,rfl,hrow,hvc⟩:=RowS.own (S:=Evr) ho (fun _ _=>trivial)
 have hN6:N≤200000:=by omega
 have hrow3:=zi hrow;clear ho hrow hN;obtain⟨nl,hnl⟩:∃y,y=fNames (ps++ls):=⟨_,rfl⟩;rw[←hnl]at hln
 have hrows:Hid (∀(wx:World),Below w3.heap.size w3 wx→∀i (hi:i<nl.length),∃b off,vA=some ⟨b,off,none⟩∧wx.cell? ⟨b,off+i*2,none⟩=some (.string (strV nl[i]))∧b<wx.heap.size):=zi fun wx hx i hi=>by
  subst hnl
  have hi2:i<(ps++ls).length:=by unfold fNames at hi;rw[List.length_map]at hi;exact hi
  obtain⟨b,off,e,q0,-⟩:=vrow_at (hrow3.out.up hx) hi2;refine⟨b,off,e,?_,lt_of_cell q0⟩;rw[q0];simp only[fNames,List.getElem_map]
 have hnl':=zi hnl;clear hnl hrow3;go_wp2_with fail;go_loopw [8] (fun i wl=>∃k:Nat,k≤N∧i= .int .i64 k∧Hid ((nl.take k).Nodup)∧Hid (Below w3.heap.size w3 wl)) (fun i _=>N-(intOf i).toNat)
 case atStart=>exact⟨0,by omega,rfl,zi (by simp),zi (Below.refl _ _)⟩
 obtain⟨k,hk,rfl,hnd,hBl⟩:=hrel;rename World=>wl;by_cases hlt:k<N
 ·have hkl:k<nl.length:=by rw[hln.out];exact hlt
  go_wp2_with fail;go_loopw [9] (fun i wm=>∃j:Nat,j≤k∧i= .int .i64 j∧Hid (∀q (hq:q<j) (hq2:q<nl.length),nl[q]≠nl[k])∧Hid (Below w3.heap.size w3 wm)) (fun i _=>k-(intOf i).toNat)
  case atStart=>exact⟨0,by omega,rfl,zi (fun q hq=>absurd hq (Nat.not_lt_zero _)),hBl⟩
  obtain⟨j,hj,rfl,hne,hBm⟩:=hrel;rename World=>wm;by_cases hm:j<k
  ·have hjl:j<nl.length:=by omega
   obtain⟨b,off,rfl,q1,ql⟩:=hrows.out wm hBm.out j hjl;obtain⟨b2,off2,e2,q2,-⟩:=hrows.out wm hBm.out k hkl;injection e2 with e2;injection e2 with e2 e3;subst e2 e3;by_cases hxy:nl[j]=nl[k]
   ·have hxe:((strV nl[j]).toList==(strV nl[k]).toList)=true:=by rw[hxy];simp
    have hRR:Hid (R=(Fnc.none,-1,60)):=zi (by
     rw[hR'.out];unfold resR;rw[if_pos];rw[←hnl'.out]
     exact dup_found hm hkl hxy)
    obtain⟨x1,hx1⟩:∃y,y=nl[j]:=⟨_,rfl⟩;obtain⟨x2,hx2⟩:∃y,y=nl[k]:=⟨_,rfl⟩;rw[←hx1]at q1;rw[←hx2]at q2;rw[←hx1,←hx2]at hxe;clear hxy hne hx1 hx2;go_wp2_with fail;go_quiet (fail);obtain⟨w5,hw5⟩:∃y,y=wm.drewN nq:=⟨_,rfl⟩
    have hB5:Below w3.heap.size w3 w5:=by rw[hw5];exact below_drewN hBm.out _
    rw[←hw5];have hV5:=zi (hV3.out.below hB5);obtain⟨r0,r1,r2,r3,rl,rf⟩:=hV5.out.factsR;replace rf:=zi rf;have f0:=rf.out 0;have f1:=rf.out 1;have f2:=rf.out 2;have f3:=rf.out 3;clear hw5 hB5 q1 q2 ql;go_wp2_with fail;refine ret_cell3 rfl rfl rfl (hV5.out.hr.put4 _ _ _ _) Tryz.underlying26 Tryz.sFunc ?_;rw[hRR.out];exact ResPost.no w _ (-1) 60 (hV5.out.bl.trans ((put4_writes w5 gr _ _ _ _).below hV5.out.bl.size fun j hj=>by have:=hV5.out.r0;simp at hj;omega))
   ·have hxe:=strV_nb hxy
    have hne2:Hid (∀q (hq:q<j+1) (hq2:q<nl.length),nl[q]≠nl[k]):=zi (fun q hq hq2=>by
     rcases Nat.lt_succ_iff_lt_or_eq.1 hq with h|h
     ·exact hne.out q h hq2
     ·subst h
      exact hxy)
    obtain⟨x1,hx1⟩:∃y,y=nl[j]:=⟨_,rfl⟩;obtain⟨x2,hx2⟩:∃y,y=nl[k]:=⟨_,rfl⟩;rw[←hx1]at q1;rw[←hx2]at q2;rw[←hx1,←hx2]at hxe;clear hxy hne hx1 hx2;go_wp2_with fail;go_quiet (fail);obtain⟨w5,hw5⟩:∃y,y=wm.drewN nq:=⟨_,rfl⟩;have hB5:=zi (show Below w3.heap.size w3 w5 by rw[hw5];exact below_drewN hBm.out _);rw[←hw5];clear hw5 q1 q2 ql;go_wp2_with fail;exact⟨⟨j+1,by omega,by simp,hne2,hB5⟩,by simp[intOf];omega⟩
  ·obtain rfl:j=k:=by omega
   have hnd2:Hid ((nl.take (j+1)).Nodup):=zi (nodup_step hkl hnd.out (fun q hq=>hne.out q hq (by omega)));clear hne hnd;go_wp2_with fail;exact⟨⟨j+1,by omega,by simp,hnd2,hBm⟩,by simp[intOf];omega⟩
 ·obtain rfl:k=N:=by omega
  have hRR:Hid (R=endR ⟨nm,ps,ls,body⟩ (stmtsR F.K body)):=zi (by
   rw[hR'.out,hFK.out];unfold resR;rw[if_neg];simp only;rw[←hnl'.out];have:=hnd.out;rw[←hln.out,List.take_length]at this;rw[(dupB_nodup nl).2 this]
   simp)
  have hV4:=hV3.out.below hBl.out;have hcw:=hcs'.out wl (.slice A3 n3 c3) (fun x=>x<w.heap.size) (hFok'.out.below hV4.bl) ((hB'.out.mono (S':=fun x=>x<w.heap.size) fun x hx _=>hx).keep fun x hx _=>hV4.bl.block x hx);obtain⟨⟨lb,ab⟩,hst⟩:∃y,y=stmtsR F.K body:=⟨_,rfl⟩;rw[←hst]at hcw;have hRS:Hid (R=endR ⟨nm,ps,ls,body⟩ (lb,ab)):=zi (by rw[hRR.out,hst]);obtain⟨q0,q1,q2,q3,ql,qf⟩:=hV4.facts;replace hV4:=zi hV4;clear qf hRR hst hcs' hnd
  cases ab with
  |some a=>
   have hR9:Hid (R=(Fnc.none,(a:Int),61)):=hRS
   have hge:(0:Int)≤a:=by omega
   simp only[atI]at hcw;replace hcw:=zi hcw;clear hRS;go_wp2_with fail;refine hcw.out.mono ?_;rintro e w9 ⟨v',rfl,-,hb9⟩;have hV9:=zi (hV4.out.below hb9);obtain⟨r0,r1,r2,r3,rl,rf⟩:=hV9.out.factsR;replace rf:=zi rf;have f0:=rf.out 0;have f1:=rf.out 1;have f2:=rf.out 2;have f3:=rf.out 3;clear hb9 q0 q1 q2 q3 ql;go_wp2_with fail;refine ret_cell3 rfl rfl rfl (hV9.out.hr.put4 _ _ _ _) Tryz.underlying26 Tryz.sFunc ?_;rw[hR9.out];exact ResPost.no w _ a 61 (hV9.out.bl.trans ((put4_writes w9 gr _ _ _ _).below hV9.out.bl.size fun j hj=>by have:=hV9.out.r0;simp at hj;omega))
  |none=>
   have hR9:Hid (R=(⟨nm,ps,ls,lb⟩,0,0)):=hRS;simp only[atI]at hcw;replace hcw:=zi hcw;clear hRS;go_wp2_with fail;refine hcw.out.mono ?_;clear hcw;rintro e we ⟨v',rfl,hSe,hbe⟩;have hVe:=hV4.out.below hbe;have hgpd:=hV4.out.hp.lt;have hgrd:=hV4.out.hr.lt;have hp0:=hV4.out.p0;have hr0:=hV4.out.r0;obtain⟨A6,c6,hv6⟩:=hSe.slice_;obtain⟨n6,hn6⟩:∃y,y=lb.len:=⟨_,rfl⟩;rw[←hn6]at hv6;rw[hv6]at hSe;rw[hv6];clear hv6;have hn6':=zi hn6;obtain⟨wf,hwf⟩:∃x,x=we.setCell ⟨gp,3,none⟩ (.slice A6 n6 c6):=⟨_,rfl⟩
   have hWf:Writes [some gp] we wf:=by rw[hwf];exact Writes.store we (by simp) _
   have hSf:SlAt wf (fun x=>x≠gr) lb (.slice A6 n6 c6):=by
    have h1:=hSe.keep fun x hx hS=>hWf.block x hx (by simp;rcases hS with hS|hS<;>omega)
    exact h1.mono fun x _ hS=>by rcases hS with hS|hS<;>omega
   clear q0 q1 q2 q3 ql;obtain⟨q0,q1,q2,q3,ql,qf⟩:=hVe.facts;replace qf:=zi qf;have qf3:=qf.out 3
   have hVf:RvW gp gr #[.string (strV nm),.slice A1 n1 c1,.slice A2 n2 c2,.slice A6 n6 c6] w wf:=by have:=hVe.put 3 (.slice A6 n6 c6);rw[←hwf]at this;exact this
   have hZ:=put4_writes wf gr (.string (strV nm)) (.slice A1 n1 c1) (.slice A2 n2 c2) (.slice A6 n6 c6);have hHz:=zi (hVf.hr.put4 (.string (strV nm)) (.slice A1 n1 c1) (.slice A2 n2 c2) (.slice A6 n6 c6));have hBz:=hVf.bl.trans (hZ.below hVf.bl.size fun j hj=>by simp at hj;omega)
   have hend:Hid (ResPost R w (.returned (.tuple #[.agg #[.string (strV nm),.slice A1 n1 c1,.slice A2 n2 c2,.slice A6 n6 c6],.int .i64 0,.int .i64 0])) ((((wf.setCell ⟨gr,0,none⟩ (.string (strV nm))).setCell ⟨gr,1,none⟩ (.slice A1 n1 c1)).setCell ⟨gr,2,none⟩ (.slice A2 n2 c2)).setCell ⟨gr,3,none⟩ (.slice A6 n6 c6))):=zi (by
    rw[hR9.out];refine⟨_,_,_,rfl,⟨hnm'.out,h1'.out.keep fun x hx _=>hBz.block x hx,h2'.out.keep fun x hx _=>hBz.block x hx,?_⟩,hBz⟩
    exact(hSf.keep fun x hx hS=>hZ.block x hx (by simp;exact hS)).mono fun _ _ _=>trivial)
   have hff:=zi hwf.symm;obtain⟨p0,p1,p2,p3,pl,pf⟩:=hVf.facts;obtain⟨r0,r1,r2,r3,rl,rf⟩:=hVf.factsR;replace rf:=zi rf;have f0:=rf.out 0;have f1:=rf.out 1;have f2:=rf.out 2;have f3:=rf.out 3;clear pf hwf hWf hSf hVf hZ hBz hSe hbe hVe hn6;go_upto_region 16 with(fail);rw[hff.out];clear q0 q1 q2 q3 ql qf qf3;go_wp2_with fail;exact ret_cell3 rfl rfl rfl hHz.out Tryz.underlying26 Tryz.sFunc hend.out
theorem resolve10_any (w:World) (f:Fnc) (unit:S) (A1 A2 A3:Option Addr) (c1 c2 c3:Nat) (hF:FnAt w Evr f (.slice A1 f.ps.length c1) (.slice A2 f.ls.length c2) (.slice A3 f.body.len c3)):
  Calls Tryz.prog 11 #[.agg (fnC f.nm A1 A2 A3 f.ps.length c1 f.ls.length c2 f.body.len c3),.string (strV unit)] w (ResPost (resolveR f unit) w):=by
 by_cases h:f.nm≠unit∨f.nm=globS
 ·have:=resolve10_unit w f unit h A1 A2 A3 f.ps.length f.ls.length f.body.len c1 c2 c3;unfold resolveR;rw[if_pos h];exact this
 ·have h1:f.nm=unit:=Classical.byContradiction fun e=>h (.inl e);subst h1;unfold resolveR;rw[if_neg h];exact resolve10_go w f (fun e=>h (.inr e)) A1 A2 A3 c1 c2 c3 hF
theorem strs_any (w:World) (A1 A2:Option Addr) (n1 n2 c1 c2:Nat) (l l':List S) (h1:l.length=n1) (h2:l'.length=n2) (hm:n1≤100000) (hm2:n2≤100000) (r1:Row w w.heap.size A1 (l.map encStr)) (r2:Row w w.heap.size A2 (l'.map encStr)):
  Calls Tryz.prog 16 #[.slice A1 n1 c1,.slice A2 n2 c2] w fun e w'=>e= .returned (.bool (decide (l=l')))∧Below w.heap.size w w':=by
 have h1':=zi h1;have h2':=zi h2;have r1':=zi r1;have r2':=zi r2;clear r1 r2 h1 h2;by_cases hne:n1=n2
 case neg=>
  have hd:=zi (show decide (l=l')=false by
   simp only[decide_eq_false_iff_not];rintro rfl
   exact hne (by rw[←h1'.out,←h2'.out]))
  have hnn:((n1:Int)==n2)=false:=by simp;omega
  go_enter Tryz.func16,Tryz.ntmps16;go_wp2_with fail;go_ret;exact⟨by rw[hd.out];rfl,Below.refl _ _⟩
 subst hne;go_enter Tryz.func16,Tryz.ntmps16;go_wp2_with fail;go_loopw [5] (fun i wr=>∃k:Nat,k≤n1∧i= .int .i64 k∧Below w.heap.size w wr∧l.take k=l'.take k) (fun i _=>n1-(intOf i).toNat)
 case atStart=>exact⟨0,Nat.zero_le _,rfl,Below.refl _ _,rfl⟩
 obtain⟨k,hk,rfl,hb,htk⟩:=hrel;have htk:=zi htk;rename_i u1;clear u1;by_cases hlt:k<n1
 ·have hl1:k<l.length:=by rw[h1'.out];exact hlt
  have hl2:k<l'.length:=by rw[h2'.out];exact hlt
  obtain⟨b1,o1,rfl,_,q1⟩:=(r1'.out.below hb).at_ (k:=k) (by simpa using hl1);obtain⟨b2,o2,rfl,_,q2⟩:=(r2'.out.below hb).at_ (k:=k) (by simpa using hl2);rw[List.getElem_map]at q1 q2;have hx:=zi (List.take_succ_eq_append_getElem hl1);have hy:=zi (List.take_succ_eq_append_getElem hl2);have hinj:Hid (l=l'→l[k]=l'[k]):=zi (by rintro rfl;rfl);have hb':=zi hb;clear hb;generalize l[k]=x at q1 hx hinj;generalize l'[k]=y at q2 hy hinj;by_cases hxy:x=y
  ·subst hxy;go_wp2_with fail
   go_region
   all_goals
    go_wp2_with fail;go_roundw
    case rel=>exact⟨k+1,by omega,by go_num,hb'.out.drew,by rw[hx.out,hy.out,htk.out]⟩
    case measure=>simp[intOf];omega
  ·have hd:=zi (show decide (l=l')=false by
    simp only[decide_eq_false_iff_not]
    exact fun h=>hxy (hinj.out h))
   have hbq:(x==y)=false:=by simpa using hxy
   go_wp2_with fail
   go_region
   all_goals
    go_wp2_with fail;go_ret;exact⟨by rw[hd.out];rfl,hb'.out.drew⟩
 ·obtain rfl:k=n1:=by omega
  have hd:=zi (show decide (l=l')=true by
   have:=htk.out;rw[show l.take k=l by rw[←h1'.out,List.take_length],show l'.take k=l' by rw[←h2'.out,List.take_length]]at this
   simpa using this)
  go_wp2_with fail;go_ret;exact⟨by rw[hd.out];rfl,hb⟩
def FnOut (f:Fnc) (a b:Int) (w:World) (e:Ending) (w':World):Prop:=∃A1 A2 A3 c1 c2 c3,e= .returned (.tuple #[.agg (fnC f.nm A1 A2 A3 f.ps.length c1 f.ls.length c2 f.body.len c3),.int .i64 a,.int .i64 b])∧FnAt w' Evr f (.slice A1 f.ps.length c1) (.slice A2 f.ls.length c2) (.slice A3 f.body.len c3)∧Below w.heap.size w w'
theorem FnAt.slices {w:World} {S:Nat→Prop} {f:Fnc} {vp vl vb:Value} (h:FnAt w S f vp vl vb):∃A1 A2 A3 c1 c2 c3,vp= .slice A1 f.ps.length c1∧vl= .slice A2 f.ls.length c2∧vb= .slice A3 f.body.len c3:=by
 obtain⟨-,⟨A1,c1,e1,-⟩,⟨A2,c2,e2,-⟩,⟨A3,c3,us,e3,-⟩⟩:=h;exact⟨A1,A2,A3,c1,c2,c3,e1,e2,e3⟩
theorem FnPost.out {r:Fnc×Nat×Nat} {f:Fnc} {a b:Nat} {w w':World} {e:Ending} (h:FnPost r w e w') (hr:r=(f,a,b)):FnOut f a b w e w':=by
 subst hr;obtain⟨vp,vl,vb,rfl,hF,hb⟩:=h;obtain⟨A1,A2,A3,c1,c2,c3,rfl,rfl,rfl⟩:=hF.slices;exact⟨A1,A2,A3,c1,c2,c3,rfl,hF.mono fun _ _ _=>trivial,hb⟩
theorem ResPost.out {r:Fnc×Int×Nat} {f:Fnc} {a:Int} {b:Nat} {w w':World} {e:Ending} (h:ResPost r w e w') (hr:r=(f,a,b)):FnOut f a b w e w':=by
 subst hr;obtain⟨vp,vl,vb,rfl,hF,hb⟩:=h;obtain⟨A1,A2,A3,c1,c2,c3,rfl,rfl,rfl⟩:=hF.slices;exact⟨A1,A2,A3,c1,c2,c3,rfl,hF,hb⟩
structure FnBx (g:Nat) (f:Fnc) (A1 A2 A3:Option Addr) (c1 c2 c3:Nat) (w:World):Prop where
 h:Holds w g 26 (fnC f.nm A1 A2 A3 f.ps.length c1 f.ls.length c2 f.body.len c3)
 at_:FnAt w Evr f (.slice A1 f.ps.length c1) (.slice A2 f.ls.length c2) (.slice A3 f.body.len c3)
section
variable {g:Nat} {f:Fnc} {A1 A2 A3:Option Addr} {c1 c2 c3:Nat} {w w':World}
theorem FnBx.below (h:FnBx g f A1 A2 A3 c1 c2 c3 w) (hb:Below w.heap.size w w'):FnBx g f A1 A2 A3 c1 c2 c3 w':=⟨h.h.below hb h.h.lt,h.at_.below hb⟩
theorem FnBx.new (h:FnAt w Evr f (.slice A1 f.ps.length c1) (.slice A2 f.ls.length c2) (.slice A3 f.body.len c3)):FnBx w.heap.size f A1 A2 A3 c1 c2 c3 (w.alloc (.cells (fnC f.nm A1 A2 A3 f.ps.length c1 f.ls.length c2 f.body.len c3) 26)):=⟨Holds.new w _ _,h.below (below_new w _)⟩
theorem FnBx.facts (h:FnBx g f A1 A2 A3 c1 c2 c3 w):w.cell? ⟨g,0,none⟩=some (.string (strV f.nm))∧w.cell? ⟨g,1,none⟩=some (.slice A1 f.ps.length c1)∧w.cell? ⟨g,2,none⟩=some (.slice A2 f.ls.length c2)∧w.cell? ⟨g,3,none⟩=some (.slice A3 f.body.len c3)∧g<w.heap.size:=
 ⟨h.h.cell 0,h.h.cell 1,h.h.cell 2,h.h.cell 3,h.h.lt⟩
end
end Go.Proofs.YtpndglghpojjkaaGreat
namespace Go.Proofs.YtpndglghpojjkaaGreat
open Go.RowKit Go.ChangeShapes Go.WideShapes Go.Deep
def Trd (t:TypeId) (W:World) (cs:List Value):Prop:=
 ∃(H:Type) (enc:TypeId×Value→H) (fuel:Nat) (x:DataW H×List MemPlace),DataW.trod enc Tryz.prog W 0 (fun _=>true) true fuel t cs=some x
theorem ArgOk.trd {t:TypeId} {W:World} {v:Value} (h:ArgOk t W v):Trd t W v.cells.toList:=by
 obtain⟨H,enc,d,p,base,hok,fuel,hf⟩:=h;exact⟨H,enc,fuel,_,hf⟩
theorem flat_at {α:Type} {C:Nat}:∀{css:List (List α)} (_:∀x∈css,x.length=C) {j:Nat} {u:α},css.flatten[j]? =some u→∃i r cs,css[i]? =some cs∧cs[r]? =some u∧j=i*C+r∧r<C
 | [],_,j,u,h=>by simp at h
 |c::css,hl,j,u,h=>by
  have hc:=hl c (List.mem_cons_self ..);rw[List.flatten_cons]at h;rcases Nat.lt_or_ge j C with hj|hj
  ·rw[List.getElem?_append_left (by omega)]at h;exact⟨0,j,c,rfl,h,by omega,hj⟩
  ·rw[List.getElem?_append_right (by omega),hc]at h;obtain⟨i,r,cs,h1,h2,h3,h4⟩:=flat_at (fun x hx=>hl x (List.mem_cons_of_mem _ hx)) h;exact⟨i+1,r,cs,by simpa using h1,h2,by rw[Nat.add_mul];omega,h4⟩
theorem row_of_cells {W:World} {a:Addr} {vs:List Value} (hc:∀j u,vs[j]? =some u→W.cell? (a.add j)=some u):Row W W.heap.size (some a) vs:=fun hne=>by
 obtain⟨b,off,spot⟩:=a
 obtain⟨u0,hu0⟩:∃u,vs[0]? =some u:=by
  cases vs with
  |nil=>exact absurd rfl hne
  |cons x r=>exact⟨x,rfl⟩
 have h0:=hc 0 u0 hu0
 have hspot:spot=none:=by simpa[Addr.add]using World.cell?_spot h0
 subst hspot
 have hadd:∀j,(⟨b,off,none⟩:Addr).add j=⟨b,off+j,none⟩:=by intro j;unfold Addr.add;split<;>simp_all
 refine⟨b,off,rfl,?_,fun j u hu=>by rw[←hadd];exact hc j u hu⟩;rw[hadd]at h0;exact block_lt_of_cell h0
theorem add_add' (a:Addr) (i j:Nat):(a.add i).add j=a.add (i+j):=by
 unfold Addr.add;split<;>split<;>simp_all<;>omega
theorem Trd.slice {t e:TypeId} {W:World} {cs:List Value} (ht:Tryz.prog.underlying t=some (.slice e)) (h:Trd t W cs):
  ∃(A:Option Addr) (n c:Nat) (css:List (List Value)),cs= [.slice A n c]∧css.length=n∧n≤c∧c≤maxLen∧(∀x∈css,x.length=Tryz.prog.cellsOf e∧Trd e W x)∧Row W W.heap.size A css.flatten:=by
 obtain⟨H,enc,fuel,x,hf⟩:=h;rcases open_slice ht hf with⟨rfl,_⟩| ⟨a,len,cap,m,n,D,Pl,rfl,_,hl,hm,hmm,_,hi⟩
 ·exact⟨none,0,0,[],rfl,rfl,Nat.le_refl _,by simp,fun x hx=>by simp at hx,Row.nil_ _ _ _⟩
 ·simp only[if_true]at hmm;subst hmm;obtain⟨f,hfl⟩:=choose_lt (p:=fun i cs'=>W.cells? 0 (a.add (i*Tryz.prog.cellsOf e)) (Tryz.prog.cellsOf e)=some cs'∧DataW.trod enc Tryz.prog W 0 (fun _=>true) true n e cs'=some (D i,Pl i)) (fun i him=>hi i him)
  have hlen:∀x∈(List.range len).map f,x.length=Tryz.prog.cellsOf e:=by intro x hx;obtain⟨i,hi',rfl⟩:=List.mem_map.1 hx;exact(World.cells?_some (hfl i (by have:=List.mem_range.1 hi';omega)).1).2.1
  refine⟨some a,len,m,(List.range len).map f,rfl,by simp,hl,hm,fun x hx=>⟨hlen x hx,?_⟩,row_of_cells fun j u hu=> ?_⟩
  ·obtain⟨i,hi',rfl⟩:=List.mem_map.1 hx;exact⟨H,enc,n,_,(hfl i (by have:=List.mem_range.1 hi';omega)).2⟩
  ·obtain⟨i,r,cs,h1,h2,rfl,hr⟩:=flat_at hlen hu
   have hil:i<len:=by
    rcases Nat.lt_or_ge i len with h|h
    ·exact h
    ·rw[List.getElem?_eq_none (by simp;omega)]at h1;cases h1
   have e1:f i=cs:=by simpa[hil]using h1
   obtain⟨_,_,hat⟩:=World.cells?_some (hfl i (by omega)).1;have:=hat r hr;rw[add_add']at this;rw[this,e1,h2]
theorem Trd.int {k:IntKind} {t:TypeId} {W:World} {cs:List Value} (ht:Tryz.prog.underlying t=some (.int k)) (h:Trd t W cs):∃n,cs= [.int k n]∧(Lit.int k n).wf=true:=by
 obtain⟨H,enc,fuel,x,hf⟩:=h;obtain⟨n,h1,_,h2⟩:=DataW.trod_int ht hf;exact⟨n,h1,h2⟩
theorem Trd.bool {t:TypeId} {W:World} {cs:List Value} (ht:Tryz.prog.underlying t=some .bool) (h:Trd t W cs):∃b,cs= [.bool b]:=by
 obtain⟨H,enc,fuel,x,hf⟩:=h;obtain⟨b,h1,_⟩:=DataW.trod_bool ht hf;exact⟨b,h1⟩
theorem Trd.string {t:TypeId} {W:World} {cs:List Value} (ht:Tryz.prog.underlying t=some .string) (h:Trd t W cs):∃s:ByteArray,cs= [.string s]∧s.size≤maxLen:=by
 obtain⟨H,enc,fuel,x,hf⟩:=h;obtain⟨b,h1,_,h2⟩:=DataW.trod_string ht hf;exact⟨b,h1,h2⟩
theorem Trd.struct {fs:Array Field} {t:TypeId} {W:World} {cs:List Value} (ht:Tryz.prog.underlying t=some (.struct fs)) (h:Trd t W cs):
  cs.length=Tryz.prog.cellsOf t∧∀(i:Nat) (f:Field),fs[i]? =some f→Trd f.type W ((cs.drop f.offset).take (Tryz.prog.cellsOf f.type)):=by
 obtain⟨H,enc,fuel,x,hf⟩:=h;obtain⟨xs,n,_,_,hl,hx,hg⟩:=DataW.trod_struct ht hf;refine⟨hl,fun i f hif=> ?_⟩
 have hlt:i<xs.length:=by rw[hx];exact(Array.getElem?_eq_some_iff.1 hif).1
 exact⟨H,enc,n,xs[i],by rw[hg i f hif];exact List.getElem?_eq_getElem hlt⟩
theorem Trd.row {α:Type} {t e:TypeId} {W:World} {cs:List Value} {f:α→Value} {p:α→Prop} (ht:Tryz.prog.underlying t=some (.slice e)) (hd:∀x,Trd e W x→∃a,x= [f a]∧p a) (h:Trd t W cs):
  ∃(A:Option Addr) (n c:Nat) (l:List α),cs= [.slice A n c]∧l.length=n∧n≤c∧c≤maxLen∧(∀a∈l,p a)∧Row W W.heap.size A (l.map f):=by
 obtain⟨A,n,c,css,rfl,hn,hc,hm,hx,hr⟩:=h.slice ht
 have:∀css:List (List Value),(∀x∈css,Trd e W x)→∃l:List α,l.length=css.length∧css.flatten=l.map f∧∀a∈l,p a:=by
  intro css
  induction css with
  |nil=>exact fun _=>⟨[],rfl,rfl,by simp⟩
  |cons y r ih=>
   intro hy;obtain⟨l,h1,h2,h3⟩:=ih fun x hx=>hy x (List.mem_cons_of_mem _ hx);obtain⟨a,rfl,ha⟩:=hd y (hy y (List.mem_cons_self ..));refine⟨a::l,by simp[h1],by simp[h2],fun x hx=> ?_⟩;rcases List.mem_cons.1 hx with rfl|hx
   ·exact ha
   ·exact h3 x hx
 obtain⟨l,h1,h2,h3⟩:=this css fun x hx'=>(hx x hx').2;exact⟨A,n,c,l,rfl,by omega,hc,hm,h3,by rw[←h2];exact hr⟩
end Go.Proofs.YtpndglghpojjkaaGreat
namespace Go.Proofs.YtpndglghpojjkaaGreat
open Go.RowKit Go.Deep Go.Maps Go.ChangeShapes Go.WideShapes
open Go.ChangeMaps (open_string)
theorem ArgOk.text {W:World} {v:Value} (h:ArgOk 9 W v):∃s:ByteArray,v= .string s∧s.size≤maxLen:=by
 obtain⟨s,e,hs⟩:=h.trd.string Tryz.underlying9;obtain⟨H,enc,d,p,base,hok,hf⟩:=h;obtain⟨s',rfl,h2⟩:=open_string Tryz.underlying9 hok hf;simp[Value.cells]at e;subst e;exact⟨_,rfl,hs⟩
theorem res_zero {f r:Fnc} {unit:S} {a:Int} (h:resolveP f unit=(r,a,0)):a=0∧r=⟨f.nm,f.ps,f.ls,listP (kindV (f.ps++f.ls)) f.body⟩∧firstP (kindV (f.ps++f.ls)) f.body=none∧dupB (fNames (f.ps++f.ls))=false∧f.nm=unit∧f.nm≠globS:=by
 unfold resolveP at h;by_cases h1:f.nm≠unit∨unit=globS
 ·rw[if_pos h1]at h;cases h
 ·rw[if_neg h1]at h;unfold resTwice at h;have e1:f.nm=unit:=Classical.byContradiction fun e=>h1 (.inl e);have e2:f.nm≠globS:=fun e=>h1 (.inr (e1▸e))
  cases hd:dupB (fNames (f.ps++f.ls))with
  |true=>rw[hd,if_pos rfl]at h;cases h
  |false=>
   rw[hd,if_neg (by simp)]at h
   cases hf:firstP (kindV (f.ps++f.ls)) f.body with
   |some b=>rw[hf]at h;unfold resBody at h;cases h
   |none=>
    rw[hf]at h;unfold resBody at h;simp only[Prod.mk.injEq]at h;exact⟨h.2.1.symm,h.1.symm,rfl,rfl,e1,e2⟩
end Go.Proofs.YtpndglghpojjkaaGreat
namespace Go.Proofs.YtpndglghpojjkaaGreat
open Go.RowKit Go.Deep
theorem resolve_same {f:Fnc} (hw:WfS f.body) (unit:S):resolveR f unit=resolveP f unit:=by
 unfold resolveR resolveP;by_cases h1:f.nm=unit
 ·by_cases h2:f.nm=globS
  ·rw[if_pos (.inr h2),if_pos (.inr (h1▸h2))]
  ·rw[if_neg (by rintro(h|h);exact h h1;exact h2 h),if_neg (by rintro(h|h);exact h h1;exact h2 (h1▸h))];unfold resR resTwice
   cases hd:dupB (fNames (f.ps++f.ls))with
   |true=>rfl
   |false=>
    have hk:kindV (f.ps++f.ls)=kindL (f.ps++f.ls):=kind_rev ((dupB_nodup _).1 hd);rw[if_neg (by simp),if_neg (by simp),hk];obtain⟨e1,e2⟩:=stmts_first (K:=kindL (f.ps++f.ls)) hw;rw[←e1]
    cases hs:stmtsR (kindL (f.ps++f.ls)) f.body with
    |mk lb ab=>
     rw[hs]at e2
     cases ab with
     |some a=>rfl
     |none=>
      unfold endR resBody;simp only[hk];rw[←e2 rfl]
 ·rw[if_pos (.inl h1),if_pos (.inl h1)]
def FnNum (f:Fnc) (a b:Int) (w:World) (e:Ending) (w':World):Prop:=∃A1 A2 A3 n1 n2 n3 c1 c2 c3,e= .returned (.tuple #[.agg #[.string (strV f.nm),.slice A1 n1 c1,.slice A2 n2 c2,.slice A3 n3 c3],.int .i64 a,.int .i64 b])∧FnAt w' Evr f (.slice A1 n1 c1) (.slice A2 n2 c2) (.slice A3 n3 c3)∧Below w.heap.size w w'
theorem FnOut.num {f:Fnc} {a b:Int} {w w':World} {e:Ending} (h:FnOut f a b w e w'):FnNum f a b w e w':=by
 obtain⟨A1,A2,A3,c1,c2,c3,rfl,hF,hb⟩:=h;exact⟨A1,A2,A3,_,_,_,c1,c2,c3,rfl,hF,hb⟩
section
variable {f:Fnc} {A1 A2 A3:Option Addr} {n1 n2 n3 c1 c2 c3:Nat} {w w':World}
theorem FnAt.nums (h:FnAt w Evr f (.slice A1 n1 c1) (.slice A2 n2 c2) (.slice A3 n3 c3)):n1=f.ps.length∧n2=f.ls.length∧n3=f.body.len:=by
 obtain⟨A1',A2',A3',c1',c2',c3',e1,e2,e3⟩:=h.slices;injection e1 with _ e1;injection e2 with _ e2;injection e3 with _ e3;exact⟨e1,e2,e3⟩
theorem resolve10_num (w:World) {r:Fnc} {unit:S} {a:Int} {b:Nat} (hw:WfS f.body) (h:resolveP f unit=(r,a,b)) (hF:FnAt w Evr f (.slice A1 n1 c1) (.slice A2 n2 c2) (.slice A3 n3 c3)):
  Calls Tryz.prog 11 #[.agg #[.string (strV f.nm),.slice A1 n1 c1,.slice A2 n2 c2,.slice A3 n3 c3],.string (strV unit)] w (FnNum r a b w):=by
 obtain⟨rfl,rfl,rfl⟩:=hF.nums;rw[←resolve_same hw]at h;exact(resolve10_any w f unit A1 A2 A3 c1 c2 c3 hF).mono fun _ _ h2=>(h2.out h).num
structure NumBx (g:Nat) (f:Fnc) (A1 A2 A3:Option Addr) (n1 n2 n3 c1 c2 c3:Nat) (w:World):Prop where
 h:Holds w g 26 #[.string (strV f.nm),.slice A1 n1 c1,.slice A2 n2 c2,.slice A3 n3 c3]
 at_:FnAt w Evr f (.slice A1 n1 c1) (.slice A2 n2 c2) (.slice A3 n3 c3)
theorem NumBx.below {g:Nat} (h:NumBx g f A1 A2 A3 n1 n2 n3 c1 c2 c3 w) (hb:Below w.heap.size w w'):NumBx g f A1 A2 A3 n1 n2 n3 c1 c2 c3 w':=⟨h.h.below hb h.h.lt,h.at_.below hb⟩
theorem NumBx.new (h:FnAt w Evr f (.slice A1 n1 c1) (.slice A2 n2 c2) (.slice A3 n3 c3)):NumBx w.heap.size f A1 A2 A3 n1 n2 n3 c1 c2 c3 (w.alloc (.cells #[.string (strV f.nm),.slice A1 n1 c1,.slice A2 n2 c2,.slice A3 n3 c3] 26)):=⟨Holds.new w _ _,h.below (below_new w _)⟩
theorem NumBx.facts {g:Nat} (h:NumBx g f A1 A2 A3 n1 n2 n3 c1 c2 c3 w):w.cell? ⟨g,0,none⟩=some (.string (strV f.nm))∧w.cell? ⟨g,1,none⟩=some (.slice A1 n1 c1)∧w.cell? ⟨g,2,none⟩=some (.slice A2 n2 c2)∧w.cell? ⟨g,3,none⟩=some (.slice A3 n3 c3)∧g<w.heap.size:=
 ⟨h.h.cell 0,h.h.cell 1,h.h.cell 2,h.h.cell 3,h.h.lt⟩
end
end Go.Proofs.YtpndglghpojjkaaGreat
namespace Go.Proofs.YtpndglghpojjkaaGreat
open Go.RowKit
section
variable {w:World} {N:Nat}
structure NoN (w:World) (N:Nat):Prop where
 e:∀g cs,Holds w g 205 cs→g≠N
 c:∀g cs,Holds w g 213 cs→g≠N
 v:∀i v,w.cell? ⟨N,i,none⟩=some v→(∀k n,v≠.int k n)∧∀b,v≠.bool b
theorem NoN.of {a b c d:Value} {s:ByteArray} {A1 A2 A3:Option Addr} {n1 n2 n3 c1 c2 c3:Nat} (ha:a= .string s) (hb:b= .slice A1 n1 c1) (hc:c= .slice A2 n2 c2) (hd:d= .slice A3 n3 c3) (h:Holds w N 26 #[a,b,c,d]):NoN w N:=by
 subst ha hb hc hd;refine⟨fun g cs hg e=> ?_,fun g cs hg e=> ?_,fun i v hv=> ?_⟩
 ·subst e;have:=hg.symm.trans h;simp at this
 ·subst e;have:=hg.symm.trans h;simp at this
 ·rw[h.cell i]at hv;rcases(show i=0∨i=1∨i=2∨i=3∨4≤i by omega)with rfl|rfl|rfl|rfl|h4
  ·simp at hv;subst hv;exact⟨fun _ _ h=>(nomatch h),fun _ h=>(nomatch h)⟩
  ·simp at hv;subst hv;exact⟨fun _ _ h=>(nomatch h),fun _ h=>(nomatch h)⟩
  ·simp at hv;subst hv;exact⟨fun _ _ h=>(nomatch h),fun _ h=>(nomatch h)⟩
  ·simp at hv;subst hv;exact⟨fun _ _ h=>(nomatch h),fun _ h=>(nomatch h)⟩
  ·rw[Array.getElem?_eq_none (by simpa using h4)]at hv;cases hv
theorem NoN.of3 {c1 c2 c3 n1 n2 n3:Nat} {A1 A2 A3:Option Addr} (h:Holds w N 97 #[.slice A1 n1 c1,.slice A2 n2 c2,.slice A3 n3 c3]):NoN w N:=by
 refine⟨fun g cs hg e=> ?_,fun g cs hg e=> ?_,fun i v hv=> ?_⟩
 ·subst e;have:=hg.symm.trans h;simp at this
 ·subst e;have:=hg.symm.trans h;simp at this
 ·rw[h.cell i]at hv;rcases(show i=0∨i=1∨i=2∨3≤i by omega)with rfl|rfl|rfl|h4
  ·simp at hv;subst hv;exact⟨fun _ _ h=>(nomatch h),fun _ h=>(nomatch h)⟩
  ·simp at hv;subst hv;exact⟨fun _ _ h=>(nomatch h),fun _ h=>(nomatch h)⟩
  ·simp at hv;subst hv;exact⟨fun _ _ h=>(nomatch h),fun _ h=>(nomatch h)⟩
  ·rw[Array.getElem?_eq_none (by simpa using h4)]at hv;cases hv
theorem RowS.not_ (H:NoN w N) {A:Option Addr} {vs:List Value} (h:RowS w Evr A vs) (hx:vs≠[]→∃(j:Nat) (u:Value),vs[j]? =some u∧((∃k n,u=Value.int k n)∨∃b,u=Value.bool b)):RowS w (·≠N) A vs:=fun hn=>by
 obtain⟨b,off,e,-,hc⟩:=h hn;obtain⟨j,u,hj,hu⟩:=hx hn;refine⟨b,off,e,fun hb=> ?_,hc⟩;have h1:=hc j u hj;rw[hb]at h1;have h2:=H.v _ _ h1;rcases hu with⟨k,n,hu⟩| ⟨x,hu⟩
 ·exact h2.1 k n hu
 ·exact h2.2 x hu
theorem ExAt.not_ (H:NoN w N):∀{e:Ex} {v:Value},ExAt w Evr e v→ExAt w (·≠N) e v
 | .nil,_,h=>h
 | .mk _ _ _ _ _,_,h=>by obtain⟨g,va,vb,e,-,hn,hk,hH,ha,hb⟩:=h;exact⟨g,va,vb,e,H.e g _ hH,hn,hk,hH,ha.not_ H,hb.not_ H⟩
theorem CnAt.not_ (H:NoN w N):∀{e:Cn} {v:Value},CnAt w Evr e v→CnAt w (·≠N) e v
 | .nil,_,h=>h
 | .mk _ _ _ _ _ _,_,h=>by obtain⟨g,va,vb,vp,vq,e,-,hn,hk,hH,ha,hb,hp,hq⟩:=h;exact⟨g,va,vb,vp,vq,e,H.c g _ hH,hn,hk,hH,ha.not_ H,hb.not_ H,hp.not_ H,hq.not_ H⟩
theorem AgCells.not_ (H:NoN w N):∀{l:List Ag} {vs:List Value},AgCells w Evr l vs→AgCells w (·≠N) l vs
 | [],_,h=>h
 |_::_,_,h=>by obtain⟨ve,vs',e,hn,he,hr⟩:=h;exact⟨ve,vs',e,hn,he.not_ H,hr.not_ H⟩
theorem AgsAt.not_ (H:NoN w N) {l:List Ag} {v:Value} (h:AgsAt w Evr l v):AgsAt w (·≠N) l v:=by
 obtain⟨A,c,vs,e,h1,hc,h2,h3⟩:=h;refine⟨A,c,vs,e,h1,hc,h2.not_ H fun hn=> ?_,h3.not_ H⟩
 cases l with
 |nil=>exact absurd h3 hn
 |cons a l=>
  obtain⟨ve,vs',e,-⟩:=h3;exact⟨0,_,by rw[e];rfl,.inr ⟨_,rfl⟩⟩
theorem HdAt.not_ (H:NoN w N) {h:Hd} {ve vf vc va:Value} (x:HdAt w Evr h ve vf vc va):HdAt w (·≠N) h ve vf vc va:=⟨x.e.not_ H,x.f.not_ H,x.c.not_ H,x.a.not_ H,x.x,x.y,x.k,x.at_⟩
theorem sl_row (H:NoN w N) {S:Nat→Prop} {l:Sl} {A:Option Addr} {us:List Value} (h:RowS w Evr A us) (h2:SlCells w S l us):RowS w (·≠N) A us:=h.not_ H fun hn=>by
 cases l with
 |nil=>exact absurd h2 hn
 |cons x t e r=>
  obtain⟨ve,vf,vc,va,vt,vl,vs',e,-⟩:=h2;exact⟨0,.int .i64 x.k,by rw[e];rfl,.inl ⟨_,_,rfl⟩⟩
theorem SlCells.not_ (H:NoN w N):∀{l:Sl} {vs:List Value},SlCells w Evr l vs→SlCells w (·≠N) l vs
 | .nil,_,h=>h
 | .cons _ _ _ _,_,h=>by obtain⟨ve,vf,vc,va,vt,vl,vs',e,hH,⟨A,c,us,e1,l1,l2,r1,t1⟩,⟨A',c',us',e2,l3,l4,r2,t2⟩,hr⟩:=h;exact⟨ve,vf,vc,va,vt,vl,vs',e,hH.not_ H,⟨A,c,us,e1,l1,l2,sl_row H r1 t1,SlCells.not_ H t1⟩,⟨A',c',us',e2,l3,l4,sl_row H r2 t2,SlCells.not_ H t2⟩,SlCells.not_ H hr⟩
theorem VrAt.not_ (H:NoN w N) {l:List Vr} {v:Value} (h:VrAt w Evr l v):VrAt w (·≠N) l v:=by
 obtain⟨A,c,e,h1,h2,h3,h4⟩:=h;refine⟨A,c,e,h1,h2,h3.not_ H fun hn=> ?_,h4⟩
 cases l with
 |nil=>exact absurd rfl hn
 |cons a l=>exact⟨1,.bool a.ptr,rfl,.inr ⟨_,rfl⟩⟩
theorem FnAt.not_ (H:NoN w N) {f:Fnc} {vp vl vb:Value} (h:FnAt w Evr f vp vl vb):FnAt w (·≠N) f vp vl vb:=by
 obtain⟨A,c,us,e,l1,l2,r1,t1⟩:=h.body;exact⟨h.nm,h.ps.not_ H,h.ls.not_ H,⟨A,c,us,e,l1,l2,sl_row H r1 t1,t1.not_ H⟩⟩
theorem FnAt.stored (H:NoN w N) {w':World} (hW:Writes [some N] w w') {f:Fnc} {vp vl vb:Value} (h:FnAt w Evr f vp vl vb):FnAt w' Evr f vp vl vb:=
 ((h.not_ H).keep fun x hx hS=>hW.block x hx (by simpa using hS)).mono fun _ _ _=>trivial
end
end Go.Proofs.YtpndglghpojjkaaGreat
