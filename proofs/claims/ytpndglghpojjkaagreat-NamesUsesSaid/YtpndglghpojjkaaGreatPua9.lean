/-
  7 texts of the proof, in one file: no condition.
-/
import Derived.Lib.Walk
import Derived.Lib.AppendZerosOnto
import Derived.Shelf.Small.Strs
import Derived.Shelf.Sort.Plain
import Derived.Ground.Names2Prog
import Derived.Shelf.Slices.Clone
import Derived.Shelf.Slices.CompactS
import Derived.Shelf.Slices.Cells
import Derived.Shelf.Slices.In.SortNone
import Derived.Sort.OwnSorted
import Derived.Sort.Grow
import Derived.Lib.OwnBridge
import Derived.Test.YtpndglghpojjkaaGreatPua8
set_option maxRecDepth 1000000
set_option maxHeartbeats 8000000
namespace Go.Proofs.YtpndglghpojjkaaGreat
open Go.RowKit Go.Deep
def bY (w:World) (S:Nat→Prop) (l:List Vr) (v:Value):Prop:=∃A c,v= .slice A l.length c∧l.length≤100000∧l.length≤c∧bI w S A (l.flatMap Vr.cells)∧∀x∈l,x.nm.length≤4096
section
variable {w w':World} {S S':Nat→Prop} {l:List Vr} {v:Value}
theorem bY.keep (hk:∀x,x<w.heap.size→S x→w'.heap[x]? =w.heap[x]?) (h:bY w S l v):bY w' S l v:=by
 obtain⟨A,c,e,h1,h2,h3,h4⟩:=h;exact⟨A,c,e,h1,h2,h3.keep hk,h4⟩
theorem bY.mono (hk:∀x,x<w.heap.size→S x→S' x) (h:bY w S l v):bY w S' l v:=by
 obtain⟨A,c,e,h1,h2,h3,h4⟩:=h;exact⟨A,c,e,h1,h2,h3.mono hk,h4⟩
theorem bY.nil_ (w:World) (S:Nat→Prop):bY w S [] (.slice none 0 0):=⟨none,0,rfl,by simp,by simp,bI.nil_ _ _ _,by simp⟩
theorem bY.own {base:Nat} (h:w.ownsRow base 79 2 v l.length (l.flatMap Vr.cells)) (hl:l.length≤100000) (hn:∀x∈l,x.nm.length≤4096):bY w (Ge base) l v:=by
 obtain⟨A,c,e,hr,hc⟩:=bI.own (S:=Ge base) h (fun g hg=>bD h hg);exact⟨A,c,e,hl,hc,hr,hn⟩
end
structure eP (w:World) (S:Nat→Prop) (f:Fnc) (vp vl vb:Value):Prop where
 nm:f.nm.length≤4096
 ps:bY w S f.ps vp
 ls:bY w S f.ls vl
 body:aQ w S f.body vb
theorem eP.keep {w w':World} {S:Nat→Prop} {f:Fnc} {vp vl vb:Value} (hk:∀x,x<w.heap.size→S x→w'.heap[x]? =w.heap[x]?) (h:eP w S f vp vl vb):eP w' S f vp vl vb:=⟨h.nm,h.ps.keep hk,h.ls.keep hk,h.body.keep hk⟩
theorem eP.mono {w:World} {S S':Nat→Prop} {f:Fnc} {vp vl vb:Value} (hk:∀x,x<w.heap.size→S x→S' x) (h:eP w S f vp vl vb):eP w S' f vp vl vb:=⟨h.nm,h.ps.mono hk,h.ls.mono hk,h.body.mono hk⟩
theorem eP.below {w w':World} {S:Nat→Prop} {f:Fnc} {vp vl vb:Value} (h:eP w S f vp vl vb) (hb:Below w.heap.size w w'):eP w' S f vp vl vb:=h.keep fun x hx _=>hb.block x hx
def zD (r:Fnc×Nat×Nat) (w:World) (e:Ending) (w':World):Prop:=
 ∃vp vl vb,e= .returned (.tuple #[.agg #[.string (ay r.1.nm),vp,vl,vb],.int .i64 r.2.1,.int .i64 r.2.2])∧eP w' (Ge w.heap.size) r.1 vp vl vb∧Below w.heap.size w w'
structure VF (C:PC) (Z:PL) (gf B:Nat) (s:PS) (cs:Array Value) (w0 w:World):Prop where
 at_:PAt C Z s w
 wr:Writes [some Z.g,some gf] w0 w
 hold:Holds w gf 26 cs
 lt:Z.g<gf
 low:gf<B
 low0:w0.heap.size=B
section
variable {C:PC} {Z:PL} {gf B:Nat} {s s2:PS} {cs:Array Value} {w0 w w':World}
theorem VF.mv (h:VF C Z gf B s cs w0 w):Moved C Z s w w:=Moved.refl h.at_
theorem VF.lt2 (h:VF C Z gf B s cs w0 w):Z.g<B:=Nat.lt_trans h.lt h.low
theorem VF.ltB (h:VF C Z gf B s cs w0 w):Z.g<B:=Nat.lt_trans h.lt h.low
theorem VF.szB (h:VF C Z gf B s cs w0 w):B≤w.heap.size:=by rw[←h.low0];exact h.wr.size
theorem VF.call (h:VF C Z gf B s cs w0 w) (hm:Moved C Z s2 w w'):VF C Z gf B s2 cs w0 w':=
 ⟨hm.at_,h.wr.trans (hm.wr.more (by simp)),hm.wr.holds h.hold (by have:=h.lt;simp;omega),h.lt,h.low,h.low0⟩
theorem VF.store (h:VF C Z gf B s cs w0 w) (i:Nat) (v:Value):VF C Z gf B s (cs.setIfInBounds i v) w0 (w.setCell ⟨gf,i,none⟩ v):=
 ⟨h.at_.writes (Writes.store w (M:= [some gf]) (by simp) v) (fun k hk=>by simp at hk;subst hk;exact h.lt),h.wr.trans (Writes.store w (by simp) v),h.hold.store i v,h.lt,h.low,h.low0⟩
theorem VF.fact (h:VF C Z gf B s cs w0 w) (i:Nat) {v:Value} (hv:cs[i]? =some v):w.cell? ⟨gf,i,none⟩=some v:=by rw[h.hold.cell];exact hv
theorem VF.facts (h:VF C Z gf B s cs w0 w):gf<w.heap.size∧(∀i,w.frozen? ⟨gf,i,none⟩=false):=⟨h.hold.lt,fun i=>h.hold.frozen i⟩
theorem tY {L:PL} {b:Bool} {t:List UInt8} (hM:Moved C L s w0 w) (h:gq C t s=(b,s2)):Calls Tryz.prog 31 #[.pointer (some ⟨L.g,0,none⟩),.string ⟨t.toArray⟩] w fun e w'=>e= .returned (.bool b)∧Moved C L s2 w0 w'∧Writes [some L.g] w w':=by
 unfold gq at h;split at h
 ·injection h with h1 h2;subst h1 h2;exact dH hM t ‹_› rfl
 ·injection h with h1 h2;subst h1 h2;exact bg hM t (by simpa using ‹¬isF C t s=true›)
end
structure iE (C:PC) (Z:PL) (gf B:Nat) (nm:List UInt8) (vp:Value) (r:List Vr×PS) (w0 w:World) (v:Value):Prop where
 vf:VF C Z gf B r.2 #[.string (ay nm),vp,.slice none 0 0,.slice none 0 0] w0 w
 own:w.ownsRow B 79 2 v r.1.length (r.1.flatMap Vr.cells)
 nms:∀x∈r.1,x.nm.length≤4096
def yx (C:PC) (Z:PL) (gf B:Nat) (nm:List UInt8) (r:List Vr×PS) (w0 w:World) (v:Value):Prop:=
 VF C Z gf B r.2 #[.string (ay nm),v,.slice none 0 0,.slice none 0 0] w0 w∧w.ownsRow B 79 2 v r.1.length (r.1.flatMap Vr.cells)∧∀x∈r.1,x.nm.length≤4096
section
variable {C:PC} {Z:PL} {gf B:Nat} {s s2:PS} {nm:List UInt8} {vp v:Value} {r:List Vr×PS} {w0 w w':World} {ps:List Vr}
theorem iE.cell (h:iE C Z gf B nm vp r w0 w v):w.cell? ⟨gf,1,none⟩=some vp:=h.vf.fact 1 rfl
theorem iE.shape (h:iE C Z gf B nm vp r w0 w v):∃A n c,v= .slice A n c:=by
 obtain⟨A,c,e,-,-⟩:=bI.own (S:=fun _=>True) h.own (fun _ _=>trivial);exact⟨A,_,c,e⟩
theorem iE.lt (h:iE C Z gf B nm vp r w0 w v):gf<w.heap.size:=h.vf.hold.lt
theorem iE.frozen (h:iE C Z gf B nm vp r w0 w v):w.frozen? ⟨gf,1,none⟩=false:=h.vf.hold.frozen 1
theorem FK {e:TypeId} {k n:Nat} {xs:List Value} (h:w.ownsRow B e k v n xs) (hg:gf<B) (i:Nat) (u:Value):(w.setCell ⟨gf,i,none⟩ u).ownsRow B e k v n xs:=bV h (Writes.store w (by simp) u) hg
theorem iE.done (h:iE C Z gf B nm vp r w0 w v):yx C Z gf B nm r w0 (w.setCell ⟨gf,1,none⟩ v) v:=⟨h.vf.store 1 v,FK h.own h.vf.low 1 v,h.nms⟩
theorem iE.of {n:Nat} {xs:List Value} (h:VF C Z gf B s #[.string (ay nm),vp,.slice none 0 0,.slice none 0 0] w0 w) (h2:w.ownsRow B 79 2 vp n xs) (hP:PAt C Z r.2 w') (hW:Writes [some Z.g,vp.ownBlock] w w')
  (hO:w'.ownsRow B 79 2 v r.1.length (r.1.flatMap Vr.cells)) (hN:∀x∈r.1,x.nm.length≤4096):iE C Z gf B nm vp r w0 w' v:=by
 refine⟨⟨hP,h.wr.then_ hW (fun k hk hm=> ?_),hW.holds h.hold ?_,h.lt,h.low,h.low0⟩,hO,hN⟩
 ·simp only[List.mem_cons,List.not_mem_nil,or_false]at hm;rcases hm with hm|hm
  ·rw[hm];simp
  ·have:=bD h2 hm.symm;have:=h.low0;omega
 ·simp only[List.mem_cons,List.not_mem_nil,or_false,not_or];refine⟨by have:=h.lt;simp;omega,fun e=> ?_⟩;have:=bD h2 e.symm;have:=h.low;omega
structure Fp (C:PC) (Z:PL) (gf B:Nat) (st s1:PS) (nm:List UInt8) (vp:Value) (ps:List Vr) (r:List Vr×PS) (w0:World) (l4 l5 l7:Bool) (w:World):Prop where
 o1:l7=true→l5=true
 o2:l5=true→l4=true
 a:l4=false→VF C Z gf B st #[.string (ay nm),vp,.slice none 0 0,.slice none 0 0] w0 w∧w.ownsRow B 79 2 vp ps.length (ps.flatMap Vr.cells)
 b:l4=true→l5=false→VF C Z gf B s1 #[.string (ay nm),vp,.slice none 0 0,.slice none 0 0] w0 w∧w.ownsRow B 79 2 vp ps.length (ps.flatMap Vr.cells)
 c:l7=true→∃v,yx C Z gf B nm r w0 w v
theorem Fp.cell {st s1:PS} {l4 l5 l7:Bool} (h:Fp C Z gf B st s1 nm vp ps r w0 l4 l5 l7 w) (h5:l5=false):w.cell? ⟨gf,1,none⟩=some vp:=by
 cases h4:l4 with
 |true=>exact(h.b h4 h5).1.fact 1 rfl
 |false=>exact(h.a h4).1.fact 1 rfl
end
theorem dM {fn:Func} {p u v:Tmp} {ty:TypeId} {R:Ending→World→Prop} {a:Act} {w:World} {g:Nat} {t:TypeId} {cs:Array Value} {fs:Array Field} (h:fn.results= #[.cell p ty,.tmp u,.tmp v]) (hd0:a.defers= []) (hp:a.tmps.getD p undef= .pointer (some ⟨g,0,none⟩))
  (hg:Holds w g t cs) (hu:Tryz.prog.underlying ty=some (.struct fs)) (hi:(Tryz.prog.info? ty).map (·.size)=some cs.size)
  (hR:R (.returned (.tuple #[.agg cs,a.tmps.getD u undef,a.tmps.getD v undef])) w):bodyPost Tryz.prog fn R .ret a w:=by
 refine bodyPost_ret_by (v:= .tuple #[.agg cs,a.tmps.getD u undef,a.tmps.getD v undef]) ?_ hd0 hR
 have hp':a.tmps[p]?.getD undef= .pointer (some ⟨g,0,none⟩):=by simpa[Array.getD_eq_getD_getElem?]using hp
 simp[results,h,hp',asAddr,run_loadVar_row w g t ty cs (0,0) _ hg hu rfl hi,Result.andThen,Array.getD_eq_getD_getElem?]
theorem Tryz.sFunc:(Tryz.prog.info? 26).map (·.size)=some 4:=by kernel_rfl
def kY:Array Value:= #[.string ⟨#[]⟩,.slice none 0 0,.slice none 0 0,.slice none 0 0]
theorem Holds.vP {w:World} {g:Nat} {t:TypeId} {a b c d:Value} (h:Holds w g t #[a,b,c,d]) (x y z u:Value):Holds ((((w.setCell ⟨g,0,none⟩ x).setCell ⟨g,1,none⟩ y).setCell ⟨g,2,none⟩ z).setCell ⟨g,3,none⟩ u) g t #[x,y,z,u]:=by
 have:=(((h.store 0 x).store 1 y).store 2 z).store 3 u;simpa using this
theorem dU (w:World) (g:Nat) (x y z u:Value):Writes [some g] w ((((w.setCell ⟨g,0,none⟩ x).setCell ⟨g,1,none⟩ y).setCell ⟨g,2,none⟩ z).setCell ⟨g,3,none⟩ u):=
 (((Writes.store w (by simp) x).trans (Writes.store _ (by simp) y)).trans (Writes.store _ (by simp) z)).trans (Writes.store _ (by simp) u)
theorem eP.none_ (w:World) (S:Nat→Prop):eP w S Fnc.none (.slice none 0 0) (.slice none 0 0) (.slice none 0 0):=⟨by simp[Fnc.none],bY.nil_ _ _,bY.nil_ _ _,aQ.nil_ _ _⟩
structure Gh (C:PC) (Z:PL) (gf B:Nat) (F:Nat→List Vr→PS→List Vr×PS) (R:List Vr×PS) (cs:Value→Array Value) (f:Nat) (l:List Vr) (s:PS) (v:Value) (w0 w:World):Prop where
 eq:F f l s=R
 fuel:s.e=0→C.tk.length<s.i+f∧l.length≤s.i
 len:l.length≤4999
 nms:∀x∈l,x.nm.length≤4096
 vf:VF C Z gf B s (cs v) w0 w
 own:w.ownsRow B 79 2 v l.length (l.flatMap Vr.cells)
theorem yT {C:PC} {s:PS} (h:(aK C s).2.e=0):s.i+1≤(aK C s).2.i:=by
 unfold aK at h⊢;split
 ·exact Nat.le_refl _
 ·rename_i hi;rw[if_neg hi]at h;exact absurd h (ou 51 (by decide) s)
theorem nH {C:PC} {l:List Vr} {p:Bool} {m:Nat} {s:PS} (h:(eF C l p m s).2.e=0):s.i+1≤(eF C l p m s).2.i∧(eF C l p m s).1.length=l.length+1:=by
 unfold eF at h⊢;split
 ·rename_i hi;rw[if_pos hi]at h;exact absurd h (ou 53 (by decide) s)
 ·rename_i hi;rw[if_neg hi]at h;exact⟨yT h,by simp⟩
theorem oV {C:PC} {l:List Vr} {p:Bool} {m:Nat} {s:PS}:(eF C l p m s).1.length≤l.length+1:=by
 unfold eF;split
 ·simp
 ·simp
theorem VF.more {B2:Nat} {C:PC} {Z:PL} {gf B:Nat} {s s2:PS} {cs:Array Value} {w0 w w':World} {e:TypeId} {k n:Nat} {v:Value} {xs:List Value} (h:VF C Z gf B s cs w0 w) (h2:w.ownsRow B2 e k v n xs) (hB:B≤B2) (hP:PAt C Z s2 w') (hW:Writes [some Z.g,v.ownBlock] w w'):VF C Z gf B s2 cs w0 w':=by
 refine⟨hP,h.wr.then_ hW (fun k hk hm=> ?_),hW.holds h.hold ?_,h.lt,h.low,h.low0⟩
 ·simp only[List.mem_cons,List.not_mem_nil,or_false]at hm;rcases hm with hm|hm
  ·rw[hm];simp
  ·have:=bD h2 hm.symm;have:=h.low0;omega
 ·simp only[List.mem_cons,List.not_mem_nil,or_false,not_or];refine⟨by have:=h.lt;simp;omega,fun e=> ?_⟩;have:=bD h2 e.symm;have:=h.low;omega
def Mid (B B2:Nat) (x:Nat):Prop:=B≤x∧x<B2
theorem bY.more {B B2 g:Nat} {w w':World} {l:List Vr} {vp v:Value} {e:TypeId} {k n:Nat} {xs:List Value} (h:bY w (Mid B B2) l vp) (hg:g<B) (h2:w.ownsRow B2 e k v n xs) (hW:Writes [some g,v.ownBlock] w w'):bY w' (Mid B B2) l vp:=
 h.keep fun x hx hS=>hW.block x hx (fun e=>by
  simp only[List.mem_cons,List.not_mem_nil,or_false,Option.some.injEq]at e;rcases e with e|e
  ·subst e;exact absurd hS.1 (Nat.not_le_of_lt hg)
  ·have:=bD h2 e.symm
   exact absurd hS.2 (Nat.not_lt_of_le this))
theorem bY.pw {S:Nat→Prop} {g:Nat} {w w':World} {l:List Vr} {vp:Value} (h:bY w S l vp) (hW:Writes [some g] w w') (hg:¬S g):bY w' S l vp:=
 h.keep fun x hx hS=>hW.block x hx (fun e=>by simp at e;subst e;exact hg hS)
theorem Mid.not {B B2 g:Nat} (h:g<B):¬Mid B B2 g:=fun x=>absurd x.1 (Nat.not_le_of_lt h)
structure Fq (C:PC) (Z:PL) (gf B B2:Nat) (R:List Vr×PS) (nm:List UInt8) (P:List Vr) (vp:Value) (f:Nat) (l:List Vr) (s:PS) (v:Value) (w0 w:World):Prop where
 eq:ji C f l s=R
 fuel:s.e=0→C.tk.length<s.i+f∧l.length≤s.i
 len:l.length≤4999
 nms:∀x∈l,x.nm.length≤4096
 vf:VF C Z gf B s #[.string (ay nm),vp,v,.slice none 0 0] w0 w
 own:w.ownsRow B2 79 2 v l.length (l.flatMap Vr.cells)
 par:bY w (Mid B B2) P vp
 lo:B≤B2
 hi:B2≤w.heap.size
theorem BL {C:PC} {s:PS} (hf:s.Few):(pY C s).Few∧((pY C s).e=0→(pY C s).deep=s.deep+1):=by
 unfold pY
 have key:∀t:PS,t.Few→(bT C 51 t).Few∧((bT C 51 t).e=0→(bT C 51 t).deep=s.deep+1):=fun t ht=>by have h1:=(Stp.fail (C:=C) 51 (by decide) t).nn ht;exact⟨h1,fun h=>absurd h (ou 51 (by decide) t)⟩
 by_cases h:(isF C [123] s&&(aV C s).1)=true
 ·rw[if_pos h];rw[Bool.and_eq_true]at h;have h2:=h.2;unfold aV at h2⊢;by_cases he:s.e=0
  ·rw[if_neg (by simpa using he)]at h2⊢;by_cases h4:40≤s.deep
   ·rw[if_pos h4]at h2;cases h2
   ·rw[if_neg h4];exact⟨hf,fun _=>rfl⟩
  ·rw[if_pos he]at h2;cases h2
 ·rw[if_neg h];refine key _ ?_;split
  ·unfold aV;split
   ·exact hf
   ·split
    ·exact(Stp.fail (C:=C) 52 (by decide) s).nn hf
    ·exact hf
  ·exact hf
theorem CV {C:PC} {Z:PL} (w:World) (s:PS) (hP:PAt C Z s w) (hd:s.e=0→1≤s.deep) (hf:s.Few):Calls Tryz.prog 36 #[.pointer (some ⟨Z.g,0,none⟩)] w (sN C Z (jq C 39 s) w):=by
 by_cases he:s.e=0
 ·exact(oM 39 (by decide)).2 C Z w s hP (by have:=hd he;omega) hf
 ·have h:=(oM 40 (by decide)).2 C Z w s hP (Nat.zero_le _) hf
  have e:jq C 40 s=jq C 39 s:=by unfold jq lC je;rw[if_pos he,if_pos he]
  rw[←e];exact h
structure G7 (Z:PL) (s:PS) (wE wR:World) (l:Bool) (w:World):Prop where
 c3:w.cell? ⟨Z.g,3,none⟩=some (.int .i64 s.e)
 c4:w.cell? ⟨Z.g,4,none⟩=some (.int .i64 s.at_)
 lt:Z.g<w.heap.size
 a:l=false→w=wE
 b:l=true→w=wR
theorem VF.Gg {C:PC} {Z:PL} {gf B:Nat} {s:PS} {cs:Array Value} {w0 w:World} (h:VF C Z gf B s cs w0 w):w.cell? ⟨Z.g,3,none⟩=some (.int .i64 s.e)∧w.cell? ⟨Z.g,4,none⟩=some (.int .i64 s.at_)∧Z.g<w.heap.size:=
 ⟨h.at_.facts.2.2.2.2.1,h.at_.facts.2.2.2.2.2.1,h.at_.lt⟩
theorem VF.GX {C:PC} {Z:PL} {gf B:Nat} {s:PS} {cs:Array Value} {w0 w:World} (h:VF C Z gf B s cs w0 w) (n:Nat):VF C Z gf B s cs w0 (w.drewN n):=h.call (Moved.drewN h.at_ n)
theorem VF.GY {C:PC} {Z:PL} {gf B:Nat} {s:PS} {cs:Array Value} {w0 w:World} (h:VF C Z gf B s cs w0 w):VF C Z gf B s cs w0 w.drew:=h.call ((Moved.refl h.at_).below (Below.refl _ w).drew)
theorem VF.ans {C:PC} {Z:PL} {gf B gr:Nat} {s:PS} {cs qs:Array Value} {t:TypeId} {w0 w:World} (h:VF C Z gf B s cs w0 w) (hr:Holds w0 gr t qs) (hlt:gr<Z.g):Holds w gr t qs:=
 h.wr.holds hr (by have:=h.lt;simp;omega)
theorem vC {w:World} {gr:Nat} {t:TypeId} (h:Holds w gr t kY):w.cell? ⟨gr,0,none⟩=some (.string ⟨#[]⟩)∧w.cell? ⟨gr,1,none⟩=some (.slice none 0 0)∧w.cell? ⟨gr,2,none⟩=some (.slice none 0 0)∧w.cell? ⟨gr,3,none⟩=some (.slice none 0 0)∧gr<w.heap.size∧∀i,w.frozen? ⟨gr,i,none⟩=false:=
 ⟨h.cell 0,h.cell 1,h.cell 2,h.cell 3,h.lt,fun i=>h.frozen i⟩
theorem uy {w:World} {g:Nat} {x y z u:Value} {p:Addr} (h:p.block≠g):((((w.setCell ⟨g,0,none⟩ x).setCell ⟨g,1,none⟩ y).setCell ⟨g,2,none⟩ z).setCell ⟨g,3,none⟩ u).cell? p=w.cell? p:=by
 have hb:=fun(v:World) (i:Nat) (a:Value)=>World.cell?_of_block (Below.heap_setCell v ⟨g,i,none⟩ a p.block (by simpa using h));rw[hb,hb,hb,hb]
theorem AX (w:World) (g:Nat) (x y z u:Value):((((w.setCell ⟨g,0,none⟩ x).setCell ⟨g,1,none⟩ y).setCell ⟨g,2,none⟩ z).setCell ⟨g,3,none⟩ u).heap.size=w.heap.size:=by simp
theorem rV (w:World) (s:ByteArray) (hs:s.size≤maxLen):Calls Tryz.prog 9 #[.string s] w (zD (funcF s.data.toList) w):=by
 obtain⟨R,hR⟩:∃x,x=funcF s.data.toList:=⟨_,rfl⟩;rw[←hR];obtain⟨lx,hlx⟩:∃x,x=o_ s.data.toList:=⟨_,rfl⟩;have htk:=fun w=>yF w s hs;rw[←hlx]at htk;replace htk:=Za htk;have hs':=hs;unfold maxLen at hs';obtain⟨wr,hwr⟩:∃x,x=w.alloc (.cells kY 26):=⟨_,rfl⟩;obtain⟨gr,hgr⟩:∃x,x=w.heap.size:=⟨_,rfl⟩
 have hHr:Holds wr gr 26 kY:=by rw[hwr,hgr];exact Holds.new w _ _
 have hb0:Below w.heap.size w wr:=by rw[hwr];exact aA w _
 have Gp:wr.heap.size=w.heap.size+1:=by rw[hwr];simp
 unfold kY at hwr;replace hR:=Za hR;replace hlx:=Za hlx;go_enter Tryz.func9,Tryz.ntmps9;go_wp2_with fail;rw[←hwr,←hgr];clear hwr;replace hHr:=Za hHr;replace hb0:=Za hb0;refine(htk.out wr).mono ?_;clear htk;rintro e w1 ⟨A,c,rfl,hrow,hlc,hb1⟩
 have hgrw:gr<wr.heap.size:=by omega
 have hgw:w.heap.size≤gr:=by omega
 have hHr1:=hHr.out.below hb1 hgrw;have hB1:=hb0.out.trans (hb1.mono (by omega));replace hgr:=Za hgr;replace Gp:=Za Gp;clear hHr hb0 hb1;by_cases he:lx.2.2=0
 case neg=>
  have he':((lx.2.2:Int) !=0)=true:=by simp;omega
  have hF:Hid (R=(Fnc.none,lx.2.1,lx.2.2)):=Za (by rw[hR.out];unfold funcF;rw[←hlx.out,if_pos he]);have g0:=hHr1.lt;have gz:=fun i=>hHr1.frozen i;have k0:w1.cell? ⟨gr,0,none⟩=some (.string ⟨#[]⟩):=hHr1.cell 0;have k1:w1.cell? ⟨gr,1,none⟩=some (.slice none 0 0):=hHr1.cell 1;have k2:w1.cell? ⟨gr,2,none⟩=some (.slice none 0 0):=hHr1.cell 2;have k3:w1.cell? ⟨gr,3,none⟩=some (.slice none 0 0):=hHr1.cell 3;replace hHr1:=Za hHr1;replace hB1:=Za hB1;replace hrow:=Za hrow;clear he hR hlx;go_wp2_with fail;refine dM rfl rfl rfl (hHr1.out.vP _ _ _ _) Tryz.underlying26 Tryz.sFunc ?_;rw[hF.out];refine⟨_,_,_,rfl,eP.none_ _ _,hB1.out.trans ((dU w1 gr _ _ _ _).below hB1.out.size (fun k hk=>by simp at hk;omega))⟩
 case pos=>
  have he':((lx.2.2:Int) !=0)=false:=by simp;omega
  obtain⟨C,hC⟩:∃C:PC,C=⟨lx.1,s.data.toList.length⟩:=⟨_,rfl⟩;obtain⟨g,hg⟩:∃x,x=w1.heap.size:=⟨_,rfl⟩;obtain⟨Z,hZ⟩:∃Z:PL,Z=⟨g,A,c⟩:=⟨_,rfl⟩;obtain⟨s0,hs0⟩:∃x:PS,x=⟨0,0,0,0,0⟩:=⟨_,rfl⟩;obtain⟨w2,hw2⟩:∃x,x=w1.alloc (.cells (s0.cells C Z) 70):=⟨_,rfl⟩;obtain⟨w3,hw3⟩:∃x,x=w2.alloc (.cells kY 26):=⟨_,rfl⟩;obtain⟨gf,hgf⟩:∃x,x=w2.heap.size:=⟨_,rfl⟩;obtain⟨B,hB⟩:∃x,x=w3.heap.size:=⟨_,rfl⟩
  have hz2:w2.heap.size=w1.heap.size+1:=by rw[hw2];simp
  have hz3:w3.heap.size=w2.heap.size+1:=by rw[hw3];simp
  have hb2:Below w1.heap.size w1 w2:=by rw[hw2];exact aA w1 _
  have hb3:Below w2.heap.size w2 w3:=by rw[hw3];exact aA w2 _
  have hfit:C.Fit:=by rw[hC,hlx.out];exact Dz _ (by rw[←hlx.out];exact he)
  have hP2:PAt C Z s0 w2:=⟨hfit,by rw[hs0];exact⟨by simp,by simp,by simp,by simp,by simp⟩,by have:=Holds.new w1 70 (s0.cells C Z);rw[←hw2]at this;rw[show Z.g=w1.heap.size by rw[hZ];exact hg];exact this,by rw[show Z.g=w1.heap.size by rw[hZ];exact hg,show Z.A=A by rw[hZ],show C.tk=lx.1 by rw[hC]];exact hrow.keep fun p hp=>hb2.cell hp⟩;have hVF:Hid (VF C Z gf B s0 kY w3 w3):=Za ⟨hP2.up hb3,Writes.refl _ _,by rw[hgf,hw3];exact Holds.new w2 _ _,by rw[hZ];simp only;omega,by omega,hB.symm⟩;have hHr3:Hid (Holds w3 gr 26 kY):=Za ((hHr1.below hb2 hHr1.lt).below hb3 (by have:=hHr1.lt;omega));have hB3:Hid (Below w.heap.size w w3):=Za (hB1.trans ((hb2.trans (hb3.mono hb2.size)).mono hB1.size));have hR2:Hid (R=uO C):=Za (by rw[hR.out];unfold funcF;rw[←hlx.out,if_neg (by omega),hC])
  have hgr3:gr<g:=by have:=hHr1.lt;omega
  have hZg:Hid (Z.g=g):=Za (by rw[hZ]);have hgfe:Hid (gf=g+1):=Za (by omega);have hcl:Hid (C.tk.length=lx.1.length∧C.end_=s.size):=Za (by rw[hC];exact⟨rfl,rfl⟩)
  have hw3e:Hid ((w1.alloc (.cells #[.slice A lx.1.length c,.int .i64 0,.int .i64 s.size,.int .i64 0,.int .i64 0,.int .i64 0,.int .i64 0] 70)).alloc (.cells #[.string ⟨#[]⟩,.slice none 0 0,.slice none 0 0,.slice none 0 0] 26)=w3):=Za (by
   rw[hw3,hw2,hs0,hZ,hC]
   rfl)
  obtain⟨s1,hs1⟩:∃y,y=aY C [102,110] s0:=⟨_,rfl⟩;obtain⟨nm,hnm⟩:∃y,y=(aK C s1).1:=⟨_,rfl⟩;obtain⟨s2,hs2⟩:∃y,y=(aK C s1).2:=⟨_,rfl⟩;have hnf:Hid (aK C s1=(nm,s2)):=Za (by rw[hnm,hs2]);obtain⟨s3,hs3⟩:∃y,y=aY C [40] s2:=⟨_,rfl⟩;have hhead:Hid (D9 C=(nm,s2)):=Za (by rw[hnm,hs2,hs1,hs0];rfl);have hstp:Hid (Stp C s0 s3):=Za (by rw[hs3,hs2,hs1];exact((Stp.want _ _).trans (Stp.name _)).trans (Stp.want _ _));have hs00:Hid (s0=⟨0,0,0,0,0⟩):=Za hs0;replace hs1:=Za hs1;replace hs3:=Za hs3;replace hgr:=hgr;clear hnm hs2 hs0 hw3 hw2 hz2 hz3 hb2 hb3 hC hP2 hHr1 hB1 hrow hfit he hlx;have hgB:gf<B:=hVF.out.low;have hzB:Z.g<B:=hVF.out.lt2;have hBw:B=w3.heap.size:=hB;replace hBw:=Za hBw;replace hB:=Za hB;replace hZ:=Za hZ;have hg1:=hg
  have hgf1:w1.heap.size+1=gf:=by have:=hgfe.out;omega
  have hg2:w1.heap.size=Z.g:=by rw[hZg.out];exact hg.symm
  replace hg1:=Za hg1;clear hgf hg;replace hgf1:=Za hgf1;replace hg2:=Za hg2;go_upto_region 6 with(fail);rw[hgf1.out,hg2.out,hw3e.out];clear hgf1 hg2 hw3e;obtain⟨w0,hw0⟩:∃x,x=w3:=⟨_,rfl⟩;replace hw0:=Za hw0;go_wp2_with fail;refine(bf hVF.out.mv [102,110] hs1.out.symm).mono ?_;rintro e w4 ⟨rfl,q4,-⟩;have V4:=Za (hVF.out.call q4);clear q4;go_wp2_with fail;refine(dR V4.out.mv hnf.out).mono ?_;rintro e w5 ⟨rfl,q5,hnl,-⟩;have V5:=V4.out.call q5;obtain⟨fl,fz⟩:=V5.facts;have f0:=V5.fact 0 rfl;have V6:VF C Z gf B s2 #[.string (ay nm),.slice none 0 0,.slice none 0 0,.slice none 0 0] w3 (w5.setCell ⟨gf,0,none⟩ (.string (ay nm))):=V5.store 0 (.string (ay nm));obtain⟨w6,hw6⟩:∃x,x=w5.setCell ⟨gf,0,none⟩ (.string (ay nm)):=⟨_,rfl⟩;rw[←hw6]at V6;replace V6:=Za V6;clear q5 V5 V4;go_wp2_with fail;rw[←hw6];clear hw6 fl fz f0;refine(bf V6.out.mv [40] hs3.out.symm).mono ?_;rintro e w7 ⟨rfl,q7,-⟩;have V7:=Za (V6.out.call q7);clear q7 V6;obtain⟨R1,hR1⟩:∃y,y=psF C:=⟨_,rfl⟩;have hR1e:Hid (mM C s3=R1):=Za (by rw[hR1,hs3.out];unfold psF;rw[hhead.out])
  replace hR1:=Za hR1;obtain⟨b,hb⟩:∃y,y=(gq C [41] s3).1:=⟨_,rfl⟩;obtain⟨s4,hs4⟩:∃y,y=(gq C [41] s3).2:=⟨_,rfl⟩;have htk4:Hid (gq C [41] s3=(b,s4)):=Za (by rw[hb,hs4])
  have hbF:Hid (b=isF C [41] s3∧(b=true→s4=s3.next)∧(b=false→s4=s3)):=Za (by
   rw[hb,hs4];unfold gq
   cases isF C [41] s3<;>simp)
  clear hb hs4;go_wp2_with fail;refine(tY V7.out.mv htk4.out).mono ?_;rintro e w8 ⟨rfl,q8,-⟩;have V8:=Za (V7.out.call q8);clear q8 V7
  go_upto_if 36 with(fail)
  go_cut [] (fun wc=>Hid (∃vp,VF C Z gf B R1.2 #[.string (ay nm),vp,.slice none 0 0,.slice none 0 0] w3 wc∧wc.ownsRow B 79 2 vp R1.1.length (R1.1.flatMap Vr.cells)∧R1.1.length≤5000∧∀x∈R1.1,x.nm.length≤4096))
  case first=>
   cases b with
   |true=>
    have hF:Hid (R1=([],s4)):=Za (by rw[←hR1e.out,hbF.out.2.1 rfl];unfold mM;rw[←hbF.out.1];rfl);go_wp2_with fail
    go_meet
    case rel=>
     rw[hF.out];exact Za ⟨_,V8.out,⟨rfl,.inl ⟨rfl,rfl⟩⟩,by simp,by simp⟩
   |false=>
    have hF:Hid (gG C (C.tk.length+1) [] s4=R1):=Za (by rw[←hR1e.out,hbF.out.2.2 rfl];unfold mM;rw[←hbF.out.1];rfl);have hlen:=V8.out.at_.fit.len
    have hL1:Hid (Gh C Z gf B (gG C) R1 (fun v=> #[.string (ay nm),v,.slice none 0 0,.slice none 0 0]) (C.tk.length+1) [] s4 (.slice none 0 0) w3 w8):=
     Za ⟨hF.out,fun _=>⟨by omega,by simp⟩,by simp,by simp,V8.out,⟨rfl,.inl ⟨rfl,rfl⟩⟩⟩
    clear hF;go_wp2_with fail;go_loopw [] (fun wr=>∃(f:Nat) (ps:List Vr) (st:PS) (vp:Value),Hid (Gh C Z gf B (gG C) R1 (fun v=> #[.string (ay nm),v,.slice none 0 0,.slice none 0 0]) f ps st vp w3 wr)) (fun wr=>iY Z wr)
    case atStart=>exact⟨_,_,_,_,hL1⟩
    clear hL1;obtain⟨f,ps,st,vp,hL⟩:=hrel;rename World=>wl;have hV:=hL.out.vf;obtain⟨a0,d0,d1,d2,d3,d4,d5,d6,dfz⟩:=hV.mv.facts;obtain⟨b1,b2,b3,b4,b5,b6,b7⟩:=hV.at_.bounds;replace hV:=Za hV;by_cases he:st.e=0
    case neg=>
     have he':((st.e:Int)==0)=false:=by simp;omega
     have hF:Hid (R1=(ps,st)):=Za (by
      rw[←hL.out.eq]
      cases f with
      |zero=>rfl
      |succ f=>unfold gG;rw[if_pos he])
     go_wp2_with fail
     go_meet
     case rel=>
      rw[hF.out];exact Za ⟨_,hL.out.vf,hL.out.own,by have:=hL.out.len;simp only;omega,hL.out.nms⟩
    have he':((st.e:Int)==0)=true:=by simp;omega
    have hfu:=hL.out.fuel he;obtain⟨f',hff⟩:∃f',f=f'+1:=⟨f-1,by omega⟩;obtain⟨tk,htk0⟩:∃y,y=(gq C [42] st).1:=⟨_,rfl⟩;obtain⟨s1',hs1'⟩:∃y,y=(gq C [42] st).2:=⟨_,rfl⟩
    have hst1:Stp C st s1':=by rw[hs1'];exact Stp.CO _ _
    have htk:Hid (gq C [42] st=(tk,s1')):=Za (by rw[htk0,hs1']);obtain⟨r,hr⟩:∃y,y=eF C ps tk 6 s1':=⟨_,rfl⟩;have hst2:Hid (Stp C st r.2):=Za (by rw[hr];exact hst1.trans (jm _ _ _ _));have hnx:Hid (r.2.e=0→s1'.i+1≤r.2.i∧r.1.length=ps.length+1):=Za (fun h=>by rw[hr]at h⊢;exact nH h)
    have hrl:r.1.length≤ps.length+1:=by rw[hr];exact oV
    have hRR:Hid (R1=if isF C [41] r.2 then(r.1,r.2.next)else gG C f' r.1 (aY C [44] r.2)):=Za (by
     rw[←hL.out.eq,hff,hr,htk0,hs1']
     conv=>lhs;unfold gG
     rw[if_neg (by omega)])
    have hi1:=hst1.i1;have he0:=Za he;have hff':=Za hff;replace hr:=Za hr;clear htk0 hs1' hst1 he hff;go_wp2_with fail;have hbd:=Below.refl wl.heap.size wl;have hgo:Hid (Fp C Z gf B st s1' nm vp ps (eF C ps tk 6 s1') w3 false false false wl.drew):=Za ⟨fun h=>(by cases h),fun h=>(by cases h),fun _=>⟨hV.out.call ((hV.out.mv).below hbd.drew),own_below hL.out.own hbd.drew⟩,fun h=>(by cases h),fun h=>(by cases h)⟩;have hps:Hid (ps.length≤5000):=Za (by have:=hL.out.len;omega);have hpn:=Za hL.out.nms;clear hbd a0 d0 d1 d2 d3 d4 d5 d6 dfz;refine aC ((eqv (.pointer (some ⟨Z.g,0,none⟩)))::(eqv (.pointer (some ⟨gf,1,none⟩)))::(eqv vp)::(eqv (.pointer (some ⟨Z.g,0,none⟩)))::(eqv (.bool tk))::(fun L w v=>L 5=true→L 7=false→iE C Z gf B nm vp (eF C ps tk 6 s1') w3 w v)::(eqv (.pointer (some ⟨gf,1,none⟩)))::(fun _ _ _=>True)::[])
     (⟨[(8,none)],0,[5,7]⟩::⟨[(9,none)],0,[5,7]⟩::⟨[(43,some 1)],0,[5,7]⟩::⟨[(8,none)],0,[5,7]⟩::⟨[(45,some 3)],0,[5,7]⟩::⟨[(42,some 0),(44,some 2),(46,some 4)],0,[7]⟩::⟨[(9,none)],0,[7]⟩::⟨[(48,some 6),(47,some 5)],0,[]⟩::[])
     (no::no::no::no::no::no::no::no::no::no::no::no::no::no::no::no::no::no::no::no::no::no::no::no::no::no::no::no::no::no::no::no::no::no::no::no::no::no::no::no::no::no::some 0::some 1::some 2::some 3::some 4::some 5::some 6::[])
     (fun L w'=>Fp C Z gf B st s1' nm vp ps (eF C ps tk 6 s1') w3 (L 4) (L 5) (L 7) w') (fun i w w'=>i≠4→i≠5→i≠7→w'=w) ?mixK11 ?okK11 ?tabK11 ?frK11 ?inK11 ?keptK11 ?startK11 ?eachK11 ?finK11
    case mixK11|okK11|tabK11|frK11=>kernel_rfl
    case inK11=>rfl
    case keptK11=>exact⟨fun _ _ _ _ _ _ _ _ _ _ _ h=>h,fun _ _ _ _ _ _ _ _ _ _ _ h=>h,fun _ _ _ _ _ _ _ _ _ _ _ h=>h,fun _ _ _ _ _ _ _ _ _ _ _ h=>h,fun _ _ _ _ _ _ _ _ _ _ _ h=>h,fun i hne hr L w w' v hLi hC hC' hG h h1 h2=>by
       have n5:(5==i)=false:=by simpa using fun e=>hne e.symm
       have a1:L 5=true:=by simpa[n5]using h1
       have n7:i≠7:=fun e=>by subst e;simp at h2
       have n7':(7==i)=false:=by simpa using fun e=>n7 e.symm
       have a2:L 7=false:=by simpa[n7']using h2
       have n4:i≠4:=fun e=>by subst e;exact absurd (hC.o2 a1) (by rw[hLi];simp)
       rw[hG n4 (fun e=>hne e) n7]
       exact h a1 a2,fun _ _ _ _ _ _ _ _ _ _ _ h=>h,fun _ _ _ _ _ _ _ _ _ _ _ h=>h,trivial⟩
    case startK11=>exact hgo.out
    case eachK11=>
     repeat' first|exact trivial|refine And.intro ?_ ?_
     ·intro w L f hC hLi hLd hLn ⟨d,_⟩;refine au.live rfl ?_;exact aj (v:=f 8) rfl (hC) (fun _ _ _=>rfl) d
     ·intro w L f hC hLi hLd hLn ⟨a,_⟩;change _=_ at a;refine au.live rfl ?_;obtain⟨ev,ec,ef⟩:=evs f;refine aj ?_ hC (fun _ _ _=>rfl) rfl;go_simp
     ·intro w L f hC hLi hLd hLn ⟨a,_⟩;change _=_ at a;refine au.live rfl ?_;have hcell:w.cell? ⟨gf,1,none⟩=some vp:=hC.cell (hLn 5 (by simp));obtain⟨ev,ec,ef⟩:=evs f;refine aj ?_ hC (fun _ _ _=>rfl) rfl;go_simp
     ·intro w L f hC hLi hLd hLn ⟨d,_⟩;refine au.live rfl ?_;exact aj (v:=f 8) rfl (hC) (fun _ _ _=>rfl) d
     ·intro w L f hC hLi hLd hLn ⟨a,_⟩;change _=_ at a;refine au.live rfl ?_;have l5:L 5=false:=hLn 5 (by simp);have hp:=hC.a hLi;obtain⟨ev,ec,ef⟩:=evs f;refine aF (f:=31) (args:= #[.pointer (some ⟨Z.g,0,none⟩),.string ⟨#[42]⟩]) (w:=w) (by go_simp) (tY hp.1.mv htk.out) ?_;rintro e w1 ⟨he,h1,hW⟩;exact⟨_,he,⟨fun h=>absurd h (by simp[hLn 7 (by simp)]),fun h=>absurd h (by simp[l5]),fun h=>absurd h (by simp),fun _ _=>⟨hp.1.call h1,bV hp.2 hW hp.1.lt2⟩,fun h=>absurd h (by simp[hLn 7 (by simp)])⟩,fun h=>absurd rfl h,rfl⟩
     ·intro w L f hC hLi hLd hLn ⟨a,b,c,_⟩;change _=_ at a b c;refine au.live rfl ?_;have l4:L 4=true:=hLd 4 (by decide);have hp:=hC.b l4 hLi;obtain⟨ev,ec,ef⟩:=evs f;refine aF (f:=32) (args:= #[.pointer (some ⟨Z.g,0,none⟩),vp,.bool tk,.int .i64 6]) (w:=w) (by go_simp) (rE w s1' hp.1.at_ B hp.1.ltB hp.1.szB vp ps hp.2 hps.out hpn.out tk 6) ?_;rintro e w1 ⟨v',he,hP,hW,hO,hN⟩;exact⟨_,he,⟨fun h=>absurd h (by simp[hLn 7 (by simp)]),fun _=>by simp[l4],fun h=>absurd h (by simp[l4]),fun _ h=>absurd h (by simp),fun h=>absurd h (by simp[hLn 7 (by simp)])⟩,fun _ h=>absurd rfl h,fun _ _=>iE.of hp.1 hp.2 hP hW hO hN⟩
     ·intro w L f hC hLi hLd hLn ⟨a,_⟩;change _=_ at a;refine au.live rfl ?_;obtain⟨ev,ec,ef⟩:=evs f;refine aj ?_ hC (fun _ _ _=>rfl) rfl;go_simp
     ·intro w L f hC hLi hLd hLn ⟨a,d47,_⟩;change _=_ at a;refine au.live rfl ?_;have l5:L 5=true:=hLd 5 (by decide);have l4:=hC.o2 l5;have hm:=d47 l5 hLi;obtain⟨vA,vn,vc,hsh⟩:=hm.shape;rw[hsh]at hm;have hcell:=hm.cell;have hlt:=hm.lt;have hfz:=hm.frozen;obtain⟨ev,ec,ef⟩:=evs f;refine dK (w':=w.setCell ⟨gf,1,none⟩ (.slice vA vn vc)) ?_ ⟨fun _=>by simp[l5],fun _=>by simp[l4],fun h=>absurd h (by simp[l4]),fun _ h=>absurd h (by simp[l5]),fun _=>⟨_,hm.done⟩⟩ (fun _ _ h=>absurd rfl h) trivial;go_simp
    intro x w' hC hV
    obtain⟨v9,hd⟩:=hC.c rfl;rw[←hr.out]at hd;clear hV hC;simp only[framed];obtain⟨w9,hw9⟩:∃y,y=w':=⟨_,rfl⟩;rw[←hw9]at hd⊢;clear hw9;have V9:=Za hd.1;have hO9:=Za hd.2.1;have hN9:=Za hd.2.2;clear hd
    cases h41:isF C [41] r.2 with
    |true=>
     have hF:Hid (R1=(r.1,r.2.next)):=Za (by rw[hRR.out,if_pos h41]);replace h41:=Za h41;go_wp2_with fail;refine(dH V9.out.mv [41] h41.out rfl).mono ?_;rintro e w10 ⟨rfl,q10,hW10⟩;have V10:=Za (V9.out.call q10);have hO10:=Za (bV hO9.out hW10 hzB);clear q10 hW10;go_wp2_with fail
     go_meet
     case rel=>
      rw[hF.out];exact Za ⟨_,V10.out,hO10.out,by have:=hps.out;simp only;omega,hN9.out⟩
    |false=>
     have hF:Hid (gG C f' r.1 (aY C [44] r.2)=R1):=Za (by rw[hRR.out,if_neg (by rw[h41];simp)]);replace h41:=Za h41;go_wp2_with fail;refine(bg V9.out.mv [41] h41.out).mono ?_;rintro e w10 ⟨rfl,q10,hW10⟩;have V10:=Za (V9.out.call q10);have hO10:=Za (bV hO9.out hW10 hzB);clear q10 hW10;go_wp2_with fail;refine(bf V10.out.mv [44] rfl).mono ?_;rintro e w11 ⟨rfl,q11,hW11⟩;have V11:=V10.out.call q11;have hO11:=bV hO10.out hW11 hzB;have hwn:=fun h=>jU (C:=C) (t:= [44]) (s:=r.2) h;have hwi:=(Stp.want (C:=C) [44] r.2).i1;have hwe:=(Stp.want (C:=C) [44] r.2).er;have h2i:=hst2.out.i1;have hlp:=hL.out.len
     have hL2:Hid (Gh C Z gf B (gG C) R1 (fun v=> #[.string (ay nm),v,.slice none 0 0,.slice none 0 0]) f' r.1 (aY C [44] r.2) v9 w3 w11):=
      Za ⟨hF.out,fun h=>by
       have h1:=hwn h
       have h2:r.2.e=0:=by
        by_cases h3:r.2.e=0
        ·exact h3
        ·exact absurd h (hwe h3)
       have h4:=hnx.out h2;have h5:=hff'.out;have h6:=hfu
       omega,by
       have h6:=hfu.2;have h7:r.1.length≤ps.length+1:=hrl;have h8:st.i≤C.tk.length:=hL.out.vf.at_.bounds.2.2.1;have h9:C.tk.length≤4096:=V11.at_.bounds.1
       omega,hN9.out,V11,hO11⟩
     have hm1:=Za (hL.out.vf.mv.iY);have hm2:=Za (V11.mv.iY);have hb11:=V11.at_.bounds.2.2.1;have hless:=Za (jA he0.out (Nat.le_trans hb11 b1) (by omega:st.i≤(aY C [44] r.2).i) (fun h=>by have:=hwn h;omega));clear hwn hwi hwe h2i hW11 q11 V11 hO11 hb11;go_wp2_with fail;exact⟨⟨_,_,_,_,hL2⟩,by rw[hm1.out,hm2.out];exact hless.out⟩
  case rest=>
   obtain⟨vp,V1,hO1,hl1,hn1⟩:=hcut.out;obtain⟨s5,hs5⟩:∃y,y=R1.2:=⟨_,rfl⟩;obtain⟨s6,hs6⟩:∃y,y=pY C s5:=⟨_,rfl⟩;rw[←hs5]at V1;replace V1:=Za V1;replace hO1:=Za hO1;replace hn1:=Za hn1;replace hs5:=Za hs5;clear hcut;obtain⟨bi,hbi⟩:∃y,y=isF C [123] s5:=⟨_,rfl⟩;obtain⟨bo,hbo⟩:∃y,y=(aV C s5).1:=⟨_,rfl⟩;obtain⟨so,hso⟩:∃y,y=(aV C s5).2:=⟨_,rfl⟩
   obtain⟨sx,hsx⟩:∃y,y=if bi then so else s5:=⟨_,rfl⟩
   have hopn:Hid (aV C s5=(bo,so)):=Za (by rw[hbo,hso]);have hbody:Hid (s6=if (bi&&bo)=true then so.next else bT C 51 sx):=Za (by rw[hs6,hsx,hso,hbo,hbi];rfl);have hlen5:=V1.out.at_.bounds.2.2.1
   have hlt5:Hid (bi=true→so.i<C.tk.length):=Za (fun h=>by
    have h1:=dD (hbi.symm.trans h);rw[hso]
    have:(aV C s5).2.i=s5.i:=by
     unfold aV;split
     ·rfl
     ·split
      ·unfold bT;split<;>rfl
      ·rfl
    omega)
   replace hbi:=Za hbi;replace hsx:=Za hsx;replace hs6:=Za hs6;clear hbo hso hlen5;go_upto_region 14 with(fail);go_cut [58] (fun u58 wd=>Hid (u58= .bool (bi&&bo)∧VF C Z gf B sx #[.string (ay nm),vp,.slice none 0 0,.slice none 0 0] w3 wd∧wd.ownsRow B 79 2 vp R1.1.length (R1.1.flatMap Vr.cells)))
   case first=>
    cases hb1:bi with
    |false=>
     rw[hb1]at hsx hbi;have hse:Hid (sx=s5):=Za (by rw[hsx.out];rfl);go_wp2_with fail;refine(aG V1.out.mv [123] hbi.out.symm).mono ?_;rintro e wd ⟨rfl,q,hW⟩;have V2:=Za (V1.out.call q);have hO2:=Za (bV hO1.out hW hzB);clear q hW;go_wp2_with fail
     go_meet
     case rel=>exact Za ⟨by rw[hb1];rfl,by rw[hse.out];exact V2.out,hO2.out⟩
    |true=>
     rw[hb1]at hsx hbi;have hse:Hid (sx=so):=Za (by rw[hsx.out];rfl);go_wp2_with fail;refine(aG V1.out.mv [123] hbi.out.symm).mono ?_;rintro e wd ⟨rfl,q,hW⟩;have V2:=Za (V1.out.call q);have hO2:=Za (bV hO1.out hW hzB);clear q hW;go_wp2_with fail;refine(eu V2.out.mv hopn.out).mono ?_;rintro e wd ⟨rfl,q,hW⟩;have V3:=Za (V2.out.call q);have hO3:=Za (bV hO2.out hW hzB);clear q hW;go_wp2_with fail
     go_meet
     case rel=>exact Za ⟨by rw[hb1];rfl,by rw[hse.out];exact V3.out,hO3.out⟩
   case rest=>
    obtain⟨e58,V4,hO4⟩:=hcut.out;replace V4:=Za V4;replace hO4:=Za hO4;clear hcut;subst e58;clear V1 hO1
    go_upto_if 58 with(fail)
    go_cut [] (fun wd=>Hid (VF C Z gf B s6 #[.string (ay nm),vp,.slice none 0 0,.slice none 0 0] w3 wd∧wd.ownsRow B 79 2 vp R1.1.length (R1.1.flatMap Vr.cells)))
    case first=>
     cases hbb:(bi&&bo)with
     |true=>
      have hF:Hid (s6=so.next):=Za (by rw[hbody.out,if_pos hbb]);have hsxo:Hid (sx=so):=Za (by rw[hsx.out,if_pos (by rw[Bool.and_eq_true]at hbb;exact hbb.1)]);have hlt:=hlt5.out (by rw[Bool.and_eq_true]at hbb;exact hbb.1);have V5:=V4.out;rw[hsxo.out]at V5;obtain⟨a0,d0,d1,d2,d3,d4,d5,d6,dfz⟩:=V5.mv.facts;obtain⟨b1,b2,b3,b4,b5,b6,b7⟩:=V5.mv.bounds;have q6:=V5.mv.next hlt;have V6:=V5.call q6;have hO6:=Za (bV hO4.out q6.wr hzB);replace V6:=Za V6;replace hbb:=Za hbb;clear q6 V5;go_wp2_with fail
      go_meet
      case rel=>exact Za ⟨by rw[hF.out];exact V6.out,hO6.out⟩
     |false=>
      have hF:Hid (bT C 51 sx=s6):=Za (by rw[hbody.out,if_neg (by rw[hbb];simp)]);replace hbb:=Za hbb;go_wp2_with fail;refine(fF V4.out.mv 51 (by decide) hF.out).mono ?_;rintro e wd ⟨rfl,q,hW⟩;have V5:=Za (V4.out.call q);have hO5:=Za (bV hO4.out hW hzB);clear q hW;go_wp2_with fail
      go_meet
      case rel=>exact Za ⟨V5.out,hO5.out⟩
    case rest=>
     obtain⟨V5,hO5⟩:=hcut.out;clear hcut V4 hO4;rename World=>wL;obtain⟨B2,hB2⟩:∃y,y=wL.heap.size:=⟨_,rfl⟩;obtain⟨R2,hR2e⟩:∃y,y=ji C (C.tk.length+1) [] s6:=⟨_,rfl⟩
     have hBB2:B≤B2:=by rw[hB2];exact V5.szB
     have hzB2:Z.g<B2:=by omega
     have hgB2:gf<B2:=by omega
     have hP5:bY wL (Mid B B2) R1.1 vp:=by have h1:=bY.own hO5 (by omega) hn1.out;exact h1.mono fun x hx hS=>⟨hS,by rw[hB2];exact hx⟩
     have hlen:=V5.at_.fit.len
     have hL1:Hid (Fq C Z gf B B2 R2 nm R1.1 vp (C.tk.length+1) [] s6 (.slice none 0 0) w3 wL):=
      Za ⟨hR2e.symm,fun _=>⟨by omega,by simp⟩,by simp,by simp,V5,⟨rfl,.inl ⟨rfl,rfl⟩⟩,hP5,hBB2,by omega⟩
     replace hB2:=Za hB2;replace hR2e:=Za hR2e;clear hlen hP5 V5 hO5;go_wp2_with fail;go_loopw [] (fun wr=>∃(f:Nat) (ls:List Vr) (st:PS) (vl:Value),Hid (Fq C Z gf B B2 R2 nm R1.1 vp f ls st vl w3 wr)) (fun wr=>iY Z wr)
     case atStart=>exact⟨_,_,_,_,hL1⟩
     clear hL1;obtain⟨f,ls,st,vl,hL⟩:=hrel;rename World=>wl;have hV:=Za hL.out.vf;obtain⟨b1,b2,b3,b4,b5,b6,b7⟩:=hL.out.vf.at_.bounds;obtain⟨pv,hpv⟩:∃y,y=isF C [118,97,114] st:=⟨_,rfl⟩;obtain⟨pt,hpt⟩:∃y,y=isF C [112,116,114] st:=⟨_,rfl⟩;replace hpv:=Za hpv.symm;replace hpt:=Za hpt.symm
     have lM:Hid (pv=false→pt=false→R2=(ls,st)):=Za (fun h1 h2=>by
      rw[←hL.out.eq]
      cases f with
      |zero=>rfl
      |succ f=>unfold ji;rw[if_neg (by rw[hpv.out,hpt.out,h1,h2];simp)])
     have hstep:Hid ((pv||pt)=true→st.e=0∧st.i<C.tk.length∧∃f',f=f'+1∧R2=ji C f' (eF C ls pt 20 st.next).1 (aY C [59] (eF C ls pt 20 st.next).2)):=Za (fun h=>by
      have he:st.e=0:=by
       rw[Bool.or_eq_true]at h;rcases h with h|h
       ·exact DX (hpv.out.trans h)
       ·exact DX (hpt.out.trans h)
      have hfu:=hL.out.fuel he;refine⟨he,?_,f-1,by omega,?_⟩
      ·rw[Bool.or_eq_true]at h;rcases h with h|h
       ·exact dD (hpv.out.trans h)
       ·exact dD (hpt.out.trans h)
      ·obtain⟨f',hf⟩:∃f',f=f'+1:=⟨f-1,by omega⟩;rw[←hL.out.eq,hf]
       conv=>lhs;unfold ji
       rw[if_pos (by rw[hpv.out,hpt.out];exact h),hpt.out]
       rfl)
     cases hc1:pv with
     |false=>
      rw[hc1]at hpv lM hstep
      cases hc2:pt with
      |false=>
       rw[hc2]at hpt lM hstep;have hF2:Hid (R2=(ls,st)):=Za (lM.out rfl rfl);go_wp2_with fail;refine(aG hV.out.mv [118,97,114] hpv.out).mono ?_;rintro e wa ⟨rfl,qa,hWa⟩;have hza0:=Nat.le_trans hL.out.hi hWa.size;have Va:=Za (hV.out.call qa);have Oa:=Za (bV hL.out.own hWa hzB2);have Pa:=Za (hL.out.par.pw hWa (Mid.not hzB));clear qa hWa;go_wp2_with fail;refine(aG Va.out.mv [112,116,114] hpt.out).mono ?_;rintro e wb ⟨rfl,qb,hWb⟩;have hzb0:=Nat.le_trans hza0 hWb.size;have Vb:=Za (Va.out.call qb);have Ob:=Za (bV Oa.out hWb hzB2);have Pb:=Za (Pa.out.pw hWb (Mid.not hzB));clear qb hWb
       have Lb:Hid (bY wb (Ge B2) R2.1 vl):=Za (by
        rw[hF2.out]
        exact bY.own Ob.out (Nat.le_trans hL.out.len (by decide)) hL.out.nms)
       have hzb:Hid (B2≤wb.heap.size):=Za hzb0;obtain⟨s7,hs7⟩:∃y,y=R2.2:=⟨_,rfl⟩
       have hst7:st=s7:=by rw[hs7,hF2.out]
       rw[hst7]at Vb;replace hs7:=Za hs7;clear hst7 Ob hF2 lM hstep Va Oa Pa;obtain⟨R3,hR3⟩:∃y,y=jq C 39 s7:=⟨_,rfl⟩
       have hrd:Hid (Calls Tryz.prog 36 #[.pointer (some ⟨Z.g,0,none⟩)] wb (sN C Z R3 wb)):=Za (by
        have h1:=hstp.out.trans (w_ (C:=C) s3);rw[hR1e.out,←hs5.out]at h1
        have f0:s0.Few:=by rw[hs00.out];exact⟨by decide,fun _=>by decide⟩
        have f5:s5.Few:=h1.nn f0
        have d5:s5.deep=0:=by rw[h1.dp,hs00.out]
        obtain⟨f6,d6⟩:=BL (C:=C) f5;rw[←hs6.out]at f6 d6;have h2:=qB (C:=C) (C.tk.length+1) [] s6;rw[←hR2e.out,←hs7.out]at h2;rw[hR3]
        exact CV wb s7 Vb.out.at_ (fun h=>by
         have e6:s6.e=0:=by
          by_cases h3:s6.e=0
          ·exact h3
          ·exact absurd h (h2.er h3)
         have:=d6 e6;rw[h2.dp]
         omega) (h2.nn f6))
       have hR3b:Hid (ni C=R3):=Za (by
        unfold ni lsF
        rw[hR1.out.symm,←hs5.out,←hs6.out,←hR2e.out,←hs7.out,←hR3])
       replace hR3:=Za hR3;go_wp2_with fail;refine hrd.out.mono ?_;clear hrd;rintro e wc ⟨vb,rfl,q3,hE3⟩;have Vc:=Vb.out.call q3;have Pc:=Pb.out.pw q3.wr (Mid.not hzB);have Lc:=Lb.out.pw q3.wr (Nat.not_le_of_lt hzB2);obtain⟨bA,bc,hbs⟩:=hE3.jr;rw[hbs]at hE3;have hE4:=hE3.ge hzb.out;have c3:=Vc.fact 3 rfl;obtain⟨f0,fz⟩:=Vc.facts;have Vd:=Vc.store 3 (.slice bA R3.1.len bc);have Pd:=Pc.pw (Writes.store wc (M:= [some gf]) (p:=⟨gf,3,none⟩) (by simp) (.slice bA R3.1.len bc)) (Mid.not hgB);have Ld:=Lc.pw (Writes.store wc (M:= [some gf]) (p:=⟨gf,3,none⟩) (by simp) (.slice bA R3.1.len bc)) (Nat.not_le_of_lt hgB2);have Ed:=hE4.st hgB2 3 (.slice bA R3.1.len bc);obtain⟨wd,hwd⟩:∃x,x=wc.setCell ⟨gf,3,none⟩ (.slice bA R3.1.len bc):=⟨_,rfl⟩;rw[←hwd]at Vd Pd Ld Ed;replace Vd:=Za Vd;replace Pd:=Za Pd;replace Ld:=Za Ld;replace Ed:=Za Ed;rw[hbs];clear q3 Vc Pc Lc hE3 hE4;obtain⟨s8,hs8⟩:∃y,y=R3.2:=⟨_,rfl⟩;rw[←hs8]at Vd;replace hs8:=Za hs8;replace Vd:=Za Vd.out;obtain⟨a0,d0,d1,d2,d3,d4,d5,d6,dfz⟩:=Vd.out.mv.facts;obtain⟨b1,b2,b3,b4,b5,b6,b7⟩:=Vd.out.mv.bounds;have hwd2:=Za hwd;clear hwd
       go_upto_region 23 with(fail);rw[←hwd2.out];clear c3 f0 fz;go_cut [110] (fun u110 wx=>Hid (u110= .bool (decide (s8.e=0∧s8.i<C.tk.length))∧VF C Z gf B s8 #[.string (ay nm),vp,vl,.slice bA R3.1.len bc] w3 wx∧bY wx (Mid B B2) R1.1 vp∧bY wx (Ge B2) R2.1 vl∧aQ wx (Ge B2) R3.1 (.slice bA R3.1.len bc)))
       case first=>
        have hgo2:Hid (∀nq,VF C Z gf B s8 #[.string (ay nm),vp,vl,.slice bA R3.1.len bc] w3 (wd.drewN nq)∧bY (wd.drewN nq) (Mid B B2) R1.1 vp∧bY (wd.drewN nq) (Ge B2) R2.1 vl∧aQ (wd.drewN nq) (Ge B2) R3.1 (.slice bA R3.1.len bc)):=Za fun nq=>⟨Vd.out.GX nq,Pd.out.keep fun x hx _=>(below_drewN (Below.refl wd.heap.size wd) nq).block x hx,Ld.out.keep fun x hx _=>(below_drewN (Below.refl wd.heap.size wd) nq).block x hx,Ed.out.below (below_drewN (Below.refl wd.heap.size wd) nq)⟩;by_cases he:s8.e=0
        ·have he':((s8.e:Int)==0)=true:=by simp;omega
         by_cases hi:s8.i<C.tk.length
         ·have hi2:decide (s8.i<C.tk.length)=true:=by simpa using hi
          have hq:Hid (decide (s8.e=0∧s8.i<C.tk.length)=true):=Za (by simp[he,hi]);clear Pd Ld Ed;go_wp2_with fail;go_quiet (fail);go_wp2_with fail
          go_meet
          case rel=>exact Za ⟨by rw[hq.out],hgo2.out nq⟩
         ·have hi2:decide (s8.i<C.tk.length)=false:=by simpa using hi
          have hq:Hid (decide (s8.e=0∧s8.i<C.tk.length)=false):=Za (by simp[hi]);clear Pd Ld Ed;go_wp2_with fail;go_quiet (fail);go_wp2_with fail
          go_meet
          case rel=>exact Za ⟨by rw[hq.out],hgo2.out nq⟩
        ·have he':((s8.e:Int)==0)=false:=by simp;omega
         have hq:Hid (decide (s8.e=0∧s8.i<C.tk.length)=false):=Za (by simp[he]);clear Pd Ld Ed;go_wp2_with fail;go_quiet (fail);go_wp2_with fail
         go_meet
         case rel=>exact Za ⟨by rw[hq.out],hgo2.out nq⟩
       case rest=>
        obtain⟨hu110,Ve,Pe,Le,Ee⟩:=hcut.out;clear hcut Vd Pd Ld Ed hwd2 a0 d0 d1 d2 d3 d4 d5 d6 dfz;replace Ve:=Za Ve;replace Pe:=Za Pe;replace Le:=Za Le;replace Ee:=Za Ee;subst hu110;obtain⟨s9,hs9⟩:∃y,y=qw C s8:=⟨_,rfl⟩
        go_upto_if 110 with(fail)
        go_cut [] (fun wx=>Hid (VF C Z gf B s9 #[.string (ay nm),vp,vl,.slice bA R3.1.len bc] w3 wx∧bY wx (Mid B B2) R1.1 vp∧bY wx (Ge B2) R2.1 vl∧aQ wx (Ge B2) R3.1 (.slice bA R3.1.len bc)))
        case first=>
         by_cases hq:s8.e=0∧s8.i<C.tk.length
         ·have hF:Hid (bT C 51 s8=s9):=Za (by rw[hs9];unfold qw;rw[if_pos hq]);have hq2:decide (s8.e=0∧s8.i<C.tk.length)=true:=decide_eq_true hq;replace hs9:=Za hs9;replace hq:=Za hq;go_wp2_with fail;refine(fF Ve.out.mv 51 (by decide) hF.out).mono ?_;rintro e wq ⟨rfl,q,hW⟩;have V7:=Za (Ve.out.call q);have P7:=Za (Pe.out.pw hW (Mid.not hzB));have L7:=Za (Le.out.pw hW (Nat.not_le_of_lt hzB2));have E7:=Za (Ee.out.keep fun x hx hS=>hW.block x hx (fun e=>by simp at e;subst e;exact Nat.not_le_of_lt hzB2 hS));clear q hW;go_wp2_with fail
          go_meet
          case rel=>exact Za ⟨V7.out,P7.out,L7.out,E7.out⟩
         ·have hF:Hid (s8=s9):=Za (by rw[hs9];unfold qw;rw[if_neg hq]);have hq2:decide (s8.e=0∧s8.i<C.tk.length)=false:=decide_eq_false hq;replace hs9:=Za hs9;replace hq:=Za hq;go_wp2_with fail
          go_meet
          case rel=>exact Za ⟨by rw[←hF.out];exact Ve.out,Pe.out,Le.out,Ee.out⟩
        case rest=>
         obtain⟨V7,P7,L7,E7⟩:=hcut.out;clear hcut Ve Pe Le Ee;rename World=>wq;replace V7:=Za V7;replace P7:=Za P7;replace L7:=Za L7;replace E7:=Za E7;obtain⟨a0,d0,d1,d2,d3,d4,d5,d6,dfz⟩:=V7.out.mv.facts;have hrF:Hid (qw C (ni C).2=s9):=Za (by rw[hR3b.out,←hs8.out,hs9]);replace hs9:=Za hs9;by_cases he:s9.e=0
         ·have he2:((s9.e:Int) !=0)=false:=by simp;omega
          have hFE:Hid (R=(⟨nm,R1.1,R2.1,R3.1⟩,0,0)):=Za (by
           rw[hR2.out];unfold uO;rw[hrF.out,if_neg (by omega),hhead.out,hR1.out.symm,hR3b.out]
           have e2:lsF C=R2:=by unfold lsF;rw[hR1.out.symm,←hs5.out,←hs6.out,hR2e.out]
           rw[e2])
          have V9:=V7.out;obtain⟨y0,y1⟩:=V9.facts;have x0:=V9.fact 0 rfl;have x1:=V9.fact 1 rfl;have x2:=V9.fact 2 rfl;have x3:=V9.fact 3 rfl;have hHE:=V9.ans hHr3.out (by rw[hZg.out];exact hgr3);obtain⟨z0,z1,z2,z3,z4,z5⟩:=vC hHE
          have hzr:gr<Z.g:=by rw[hZg.out];exact hgr3
          obtain⟨pA,pn,pc,hps⟩:∃a b c,vp= .slice a b c:=by obtain⟨A,c,e,-⟩:=P7.out;exact⟨A,_,c,e⟩
          obtain⟨lA,ln,lc,hls⟩:∃a b c,vl= .slice a b c:=by obtain⟨A,c,e,-⟩:=L7.out;exact⟨A,_,c,e⟩
          rw[hps]at x1;rw[hls]at x2;have hW9:=dU wq gr (.string (ay nm)) (.slice pA pn pc) (.slice lA ln lc) (.slice bA R3.1.len bc);have hH9:=Za (hHE.vP (.string (ay nm)) (.slice pA pn pc) (.slice lA ln lc) (.slice bA R3.1.len bc));have Gv:gr<B:=Nat.lt_trans hzr hzB;have hnoM:¬Mid B B2 gr:=Mid.not Gv;have Gq:¬Ge B2 gr:=Nat.not_le_of_lt (Nat.lt_of_lt_of_le Gv hBB2);have P9:=P7.out.pw hW9 hnoM;have L9:=L7.out.pw hW9 Gq;have E9:=E7.out.keep fun x hx hS=>hW9.block x hx (fun e=>by simp at e;subst e;exact Gq hS);have hBl:Hid (w.heap.size≤B):=Za (by have:=hB3.out.size;have:=hBw.out;omega);rw[hps]at P9;rw[hls]at L9;have hF9:Hid (eP ((((wq.setCell ⟨gr,0,none⟩ (.string (ay nm))).setCell ⟨gr,1,none⟩ (.slice pA pn pc)).setCell ⟨gr,2,none⟩ (.slice lA ln lc)).setCell ⟨gr,3,none⟩ (.slice bA R3.1.len bc)) (Ge w.heap.size) ⟨nm,R1.1,R2.1,R3.1⟩ (.slice pA pn pc) (.slice lA ln lc) (.slice bA R3.1.len bc)):=Za
           ⟨hnl,P9.mono fun x _ hS=>Nat.le_trans hBl.out hS.1,L9.mono fun x _ hS=>Nat.le_trans (Nat.le_trans hBl.out hBB2) hS,E9.mono fun x _ hS=>Nat.le_trans (Nat.le_trans hBl.out hBB2) hS⟩
          have hB9:Hid (Below w.heap.size w ((((wq.setCell ⟨gr,0,none⟩ (.string (ay nm))).setCell ⟨gr,1,none⟩ (.slice pA pn pc)).setCell ⟨gr,2,none⟩ (.slice lA ln lc)).setCell ⟨gr,3,none⟩ (.slice bA R3.1.len bc))):=Za (by
           have h1:=hB3.out.trans (V9.wr.below hB3.out.size (fun k hk=>by
            have:=V9.lt;have:=hgr.out;simp at hk
            omega))
           exact h1.trans (hW9.below h1.size (fun k hk=>by have:=hgr.out;simp at hk;omega)))
          clear V9 hHE hW9 P9 L9 E9 hps hls P7 L7 E7;go_wp2_with fail;refine dM rfl rfl rfl hH9.out Tryz.underlying26 Tryz.sFunc ?_;rw[hFE.out];exact⟨_,_,_,rfl,hF9.out,hB9.out⟩
         ·have he2:((s9.e:Int) !=0)=true:=by simp;omega
          have hFE:Hid (R=(Fnc.none,s9.at_,s9.e)):=Za (by
           rw[hR2.out];unfold uO
           rw[hrF.out,if_pos he])
          clear he P7 L7 E7;go_wp2_with fail;obtain⟨wE,hwE⟩:∃x,x=wq.drew:=⟨_,rfl⟩;have V9:=V7.out.GY;rw[←hwE]at V9;clear V7;have hHE:=V9.ans hHr3.out (by rw[hZg.out];exact hgr3);have hk:=Za (vC hHE)
          have hzr:gr<Z.g:=by rw[hZg.out];exact hgr3
          obtain⟨wR,hwR0⟩:∃x,x=(((wE.setCell ⟨gr,0,none⟩ (.string ⟨#[]⟩)).setCell ⟨gr,1,none⟩ (.slice none 0 0)).setCell ⟨gr,2,none⟩ (.slice none 0 0)).setCell ⟨gr,3,none⟩ (.slice none 0 0):=⟨_,rfl⟩;have hwR:=Za hwR0;obtain⟨e3,e4,e5⟩:=V9.Gg
          have hRf:Hid (wR.cell? ⟨Z.g,3,none⟩=some (.int .i64 s9.e)∧wR.cell? ⟨Z.g,4,none⟩=some (.int .i64 s9.at_)∧Z.g<wR.heap.size):=Za (by
           rw[hwR0,uy (by simp only;omega),uy (by simp only;omega),AX]
           exact⟨e3,e4,e5⟩)
          have hgo:Hid (G7 Z s9 wE wR false wq.drew):=Za (by
           rw[←hwE]
           exact⟨e3,e4,e5,fun _=>rfl,fun h=>(by cases h)⟩)
          replace hwE:=Za hwE;have hHR:Hid (Holds wR gr 26 kY):=Za (by rw[hwR0];exact hHE.vP _ _ _ _)
          have hBR:Hid (Below w.heap.size w wR):=Za (by
           have h1:=hB3.out.trans (V9.wr.below hB3.out.size (fun k hk=>by
            have:=V9.lt;have:=hgr.out;simp at hk
            omega))
           rw[hwR0]
           exact h1.trans ((dU wE gr _ _ _ _).below h1.size (fun k hk=>by have:=hgr.out;simp at hk;omega)))
          clear hwR0 e3 e4 e5 V9 hHE a0 d0 d1 d2 d3 d4 d5 d6 dfz;refine aC ((eqv (.agg #[.string ⟨#[]⟩,.slice none 0 0,.slice none 0 0,.slice none 0 0]))::(eqv (.pointer (some ⟨Z.g,0,none⟩)))::(eqv (.pointer (some ⟨Z.g,0,none⟩)))::(eqv (.pointer (some ⟨Z.g,4,none⟩)))::(eqv (.int .i64 s9.at_))::(eqv (.pointer (some ⟨Z.g,0,none⟩)))::(eqv (.pointer (some ⟨Z.g,0,none⟩)))::(eqv (.pointer (some ⟨Z.g,3,none⟩)))::(eqv (.int .i64 s9.e))::(fun _ _ _=>True)::(eqv (.int .i64 s9.at_))::(eqv (.int .i64 s9.e))::[])
           (⟨[],0,[]⟩::(rn1 8)::(rd1 119 1)::(rd1 120 2)::(rd1 121 3)::(rn1 8)::(rd1 123 5)::(rd1 124 6)::(rd1 125 7)::⟨[(2,none),(118,some 0)],0,[]⟩::(rd1 122 4)::(rd1 126 8)::[])
           (no::no::no::some 10::some 11::no::no::no::no::no::no::no::no::no::no::no::no::no::no::no::no::no::no::no::no::no::no::no::no::no::no::no::no::no::no::no::no::no::no::no::no::no::no::no::no::no::no::no::no::no::no::no::no::no::no::no::no::no::no::no::no::no::no::no::no::no::no::no::no::no::no::no::no::no::no::no::no::no::no::no::no::no::no::no::no::no::no::no::no::no::no::no::no::no::no::no::no::no::no::no::no::no::no::no::no::no::no::no::no::no::no::no::no::no::no::no::no::no::some 0::some 1::some 2::some 3::some 4::some 5::some 6::some 7::some 8::[])
           (fun L w'=>G7 Z s9 wE wR (L 9) w') (fun i w w'=>i≠9→w'=w) ?mixK26 ?okK26 ?tabK26 ?frK26 ?inK26 ?keptK26 ?startK26 ?eachK26 ?finK26
          case mixK26|okK26|tabK26|frK26=>kernel_rfl
          case inK26=>rfl
          case keptK26=>((repeat refine⟨fun _ _ _ _ _ _ _ _ _ _ _ h=>h,?_⟩);exact trivial)
          case startK26=>exact hgo.out
          case eachK26=>
           repeat' first|exact trivial|refine And.intro ?_ ?_
           ·intro w L f hC hLi hLd hLn hF;refine au.live rfl ?_;obtain⟨ev,ec,ef⟩:=evs f;refine aj ?_ (hC) (fun _=>rfl) rfl;go_simp
           ·intro w L f hC hLi hLd hLn ⟨d,_⟩;refine au.live rfl ?_;exact aj (v:=f 8) rfl (hC) (fun _=>rfl) d
           iterate 3 (intro w L f hC hLi hLd hLn ⟨a,_⟩;change _=_ at a;refine au.live rfl ?_;have c3:=hC.c3;have c4:=hC.c4;have clt:=hC.lt;obtain⟨ev,ec,ef⟩:=evs f;refine aj ?_ hC (fun _=>rfl) rfl;go_simp)
           ·intro w L f hC hLi hLd hLn ⟨d,_⟩;refine au.live rfl ?_;exact aj (v:=f 8) rfl (hC) (fun _=>rfl) d
           iterate 3 (intro w L f hC hLi hLd hLn ⟨a,_⟩;change _=_ at a;refine au.live rfl ?_;have c3:=hC.c3;have c4:=hC.c4;have clt:=hC.lt;obtain⟨ev,ec,ef⟩:=evs f;refine aj ?_ hC (fun _=>rfl) rfl;go_simp)
           ·intro w L f hC hLi hLd hLn ⟨a,b,_⟩;change _=_ at a b;refine au.live rfl ?_;have hw:=hC.a hLi;rw[hw];have k0:=hk.out.1;have k1:=hk.out.2.1;have k2:=hk.out.2.2.1;have k3:=hk.out.2.2.2.1;have g0:=hk.out.2.2.2.2.1;have gz:=hk.out.2.2.2.2.2;obtain⟨ev,ec,ef⟩:=evs f;refine dK (w':=wR) ?_ ⟨hRf.out.1,hRf.out.2.1,hRf.out.2.2,fun h=>absurd h (by simp),fun _=>rfl⟩ (fun h=>absurd rfl h) trivial;rw[hwR.out];go_simp
           ·intro w L f hC hLi hLd hLn ⟨d,_⟩;refine au.live rfl ?_;exact aj (v:=f 122) rfl (hC) (fun _=>rfl) d
           ·intro w L f hC hLi hLd hLn ⟨d,_⟩;refine au.live rfl ?_;exact aj (v:=f 126) rfl (hC) (fun _=>rfl) d
          intro x w' hC hV
          have hd:=hC.b rfl;have ea:x 10= .int .i64 s9.at_:=hV 10 _ rfl rfl;have eb:x 11= .int .i64 s9.e:=hV 11 _ rfl rfl;replace ea:=Za ea;replace eb:=Za eb;clear hC;simp only[framed];obtain⟨w9,hw9⟩:∃y,y=w':=⟨_,rfl⟩;have hw9':w9=wR:=hw9.trans hd;rw[←hw9,hw9'];clear hw9 hw9' hd;go_wp2_with fail;refine dM rfl rfl rfl hHR.out Tryz.underlying26 Tryz.sFunc ?_;rw[hFE.out];refine⟨_,_,_,?_,eP.none_ _ _,hBR.out⟩;show Ending.returned (.tuple #[.agg kY,x 10,x 11])=_;rw[ea.out,eb.out];rfl
      |true=>
       rw[hc2]at hpt lM hstep
       obtain⟨he0,hilt,f',hff,hRn⟩:=hstep.out rfl;obtain⟨r,hr⟩:∃y,y=eF C ls true 20 st.next:=⟨_,rfl⟩;rw[←hr]at hRn;replace hr:=Za hr;replace hRn:=Za hRn;go_wp2_with fail;refine(aG hV.out.mv [118,97,114] hpv.out).mono ?_;rintro e wa ⟨rfl,qa,hWa⟩;have Va:=Za (hV.out.call qa);have Oa:=Za (bV hL.out.own hWa hzB2);have Pa:=Za (hL.out.par.pw hWa (Mid.not hzB));have zq0:=Nat.le_trans hL.out.hi hWa.size;clear qa hWa;go_wp2_with fail;refine(aG Va.out.mv [112,116,114] hpt.out).mono ?_;rintro e wb ⟨rfl,qb,hWb⟩;have zq:=Nat.le_trans zq0 hWb.size;have Vq:=Za (Va.out.call qb);have Oq:=Za (bV Oa.out hWb hzB2);have Pq:=Za (Pa.out.pw hWb (Mid.not hzB));clear qb hWb;go_wp2_with fail;refine(aG Vq.out.mv [112,116,114] hpt.out).mono ?_;rintro e wy ⟨rfl,qy,hWy⟩;have zy:=Nat.le_trans zq hWy.size;have Vy:=Vq.out.call qy;have Oy:=Za (bV Oq.out hWy hzB2);have Py:=Za (Pq.out.pw hWy (Mid.not hzB));obtain⟨a0,d0,d1,d2,d3,d4,d5,d6,dfz⟩:=Vy.mv.facts;obtain⟨f0,fz⟩:=Vy.facts;have c2:=Vy.fact 2 rfl;have hne:gf≠Z.g:=Nat.ne_of_gt Vy.lt;have hne2:Z.g≠gf:=Nat.ne_of_lt Vy.lt
       have hqb:=Vy.mv.next hilt;have Vz:=Vy.call hqb;have Oz:=Za (bV Oy.out hqb.wr hzB2);have Pz:=Za (Py.out.pw hqb.wr (Mid.not hzB));obtain⟨wz,hwz⟩:∃x,x=wy.setCell ⟨Z.g,1,none⟩ (.int .i64 ((st.i:Int)+1)):=⟨_,rfl⟩
       have hsz:B2≤wz.heap.size:=by rw[hwz];exact Nat.le_trans zy hqb.wr.size
       rw[←hwz]at Vz Oz Pz;replace Vz:=Za Vz;have hwz2:=Za hwz;clear qy hWy hqb hwz;replace Vy:=Za Vy;go_wp2_with fail;rw[←hwz2.out];refine(rE wz st.next Vz.out.at_ B2 hzB2 hsz vl ls Oz.out (by have:=hL.out.len;omega) hL.out.nms true 20).mono ?_;rintro e wm ⟨vm,rfl,Pm,Wm,Om,Nm⟩;have zm:=Nat.le_trans hsz Wm.size;have Vm:=Vz.out.more Oz.out hBB2 Pm Wm;have Pr:=Za (Pz.out.more hzB Oz.out Wm);rw[←hr.out]at Vm Om Nm;obtain⟨mA,mc,hms,-,-⟩:=bI.own (S:=fun _=>True) Om (fun _ _=>trivial);rw[hms]at Om;have m2:=Vm.fact 2 rfl;obtain⟨m0,mz⟩:=Vm.facts;have Vs:=Vm.store 2 (.slice mA r.1.length mc);have hst:=Writes.store wm (M:= [some gf]) (p:=⟨gf,2,none⟩) (by simp) (.slice mA r.1.length mc);have Os:=Za (bV Om hst hgB2);have Ps:=Za (Pr.out.pw hst (Mid.not hgB));obtain⟨ws,hws⟩:∃x,x=wm.setCell ⟨gf,2,none⟩ (.slice mA r.1.length mc):=⟨_,rfl⟩
       have zs:B2≤ws.heap.size:=by rw[hws];exact Nat.le_trans zm hst.size
       rw[←hws]at Vs Os Ps;replace Vs:=Za Vs;have hws2:=Za hws;have Nm2:=Za Nm;clear hws hst Vm Pm Wm Om a0 d0 d1 d2 d3 d4 d5 d6 dfz f0 fz c2 Nm;rw[hms];go_wp2_with fail;rw[←hws2.out];refine(bf Vs.out.mv [59] rfl).mono ?_;rintro e we ⟨rfl,qe,hWe⟩;have ze:=Nat.le_trans zs hWe.size;have Ve:=Vs.out.call qe;have Oe:=bV Os.out hWe hzB2;have Pe:=Ps.out.pw hWe (Mid.not hzB);have hbe:=Ve.at_.bounds.2.2.1;have hnx:=fun h=>jU (C:=C) (t:= [59]) (s:=r.2) h;have hwi:=(Stp.want (C:=C) [59] r.2).i1;have hwe:=(Stp.want (C:=C) [59] r.2).er
       have hmi:st.next.i≤r.2.i:=by rw[hr.out];exact(jm (C:=C) _ _ _ _).i1
       have hmn:r.2.e=0→st.next.i+1≤r.2.i∧r.1.length=ls.length+1:=fun h=>by rw[hr.out]at h⊢;exact nH h
       have hml:r.1.length≤ls.length+1:=by rw[hr.out];exact oV
       have hni:st.next.i=st.i+1:=rfl;have hfu:=hL.out.fuel he0
       have hL2:Hid (Fq C Z gf B B2 R2 nm R1.1 vp f' r.1 (aY C [59] r.2) (.slice mA r.1.length mc) w3 we):=
        Za ⟨hRn.out.symm,fun h=>by
         have h1:=hnx h
         have h2:r.2.e=0:=by
          by_cases h3:r.2.e=0
          ·exact h3
          ·exact absurd h (hwe h3)
         have h4:=hmn h2
         omega,by have h8:=hL.out.vf.at_.bounds.2.2.1;have h9:=Ve.at_.bounds.1;omega,Nm2.out,Ve,Oe,Pe,hBB2,ze⟩
       have hm1:=Za (hL.out.vf.mv.iY);have hm2:=Za (Ve.mv.iY);have hless:=Za (jA he0 (Nat.le_trans hbe b1) (by omega:st.i≤(aY C [59] r.2).i) (fun(h:(aY C [59] r.2).e=0)=>by have:=hnx h;omega));clear hnx hwi hwe hmi hmn hml hni hWe qe Ve Oe Pe hbe hfu;go_wp2_with fail;exact⟨⟨_,_,_,_,hL2⟩,by rw[hm1.out,hm2.out];exact hless.out⟩
     |true=>
      rw[hc1]at hpv lM hstep
      obtain⟨he0,hilt,f',hff,hRn⟩:=hstep.out rfl;obtain⟨r,hr⟩:∃y,y=eF C ls pt 20 st.next:=⟨_,rfl⟩;rw[←hr]at hRn;replace hr:=Za hr;replace hRn:=Za hRn;go_wp2_with fail;refine(aG hV.out.mv [118,97,114] hpv.out).mono ?_;rintro e wa ⟨rfl,qa,hWa⟩;have zq:=Nat.le_trans hL.out.hi hWa.size;have Vq:=Za (hV.out.call qa);have Oq:=Za (bV hL.out.own hWa hzB2);have Pq:=Za (hL.out.par.pw hWa (Mid.not hzB));clear qa hWa;go_wp2_with fail;refine(aG Vq.out.mv [112,116,114] hpt.out).mono ?_;rintro e wy ⟨rfl,qy,hWy⟩;have zy:=Nat.le_trans zq hWy.size;have Vy:=Vq.out.call qy;have Oy:=Za (bV Oq.out hWy hzB2);have Py:=Za (Pq.out.pw hWy (Mid.not hzB));obtain⟨a0,d0,d1,d2,d3,d4,d5,d6,dfz⟩:=Vy.mv.facts;obtain⟨f0,fz⟩:=Vy.facts;have c2:=Vy.fact 2 rfl;have hne:gf≠Z.g:=Nat.ne_of_gt Vy.lt;have hne2:Z.g≠gf:=Nat.ne_of_lt Vy.lt;have hqb:=Vy.mv.next hilt;have Vz:=Vy.call hqb;have Oz:=Za (bV Oy.out hqb.wr hzB2);have Pz:=Za (Py.out.pw hqb.wr (Mid.not hzB));obtain⟨wz,hwz⟩:∃x,x=wy.setCell ⟨Z.g,1,none⟩ (.int .i64 ((st.i:Int)+1)):=⟨_,rfl⟩
      have hsz:B2≤wz.heap.size:=by rw[hwz];exact Nat.le_trans zy hqb.wr.size
      rw[←hwz]at Vz Oz Pz;replace Vz:=Za Vz;have hwz2:=Za hwz;clear qy hWy hqb hwz;replace Vy:=Za Vy;go_wp2_with fail;rw[←hwz2.out];refine(rE wz st.next Vz.out.at_ B2 hzB2 hsz vl ls Oz.out (by have:=hL.out.len;omega) hL.out.nms pt 20).mono ?_;rintro e wm ⟨vm,rfl,Pm,Wm,Om,Nm⟩;have zm:=Nat.le_trans hsz Wm.size;have Vm:=Vz.out.more Oz.out hBB2 Pm Wm;have Pr:=Za (Pz.out.more hzB Oz.out Wm);rw[←hr.out]at Vm Om Nm;obtain⟨mA,mc,hms,-,-⟩:=bI.own (S:=fun _=>True) Om (fun _ _=>trivial);rw[hms]at Om;have m2:=Vm.fact 2 rfl;obtain⟨m0,mz⟩:=Vm.facts;have Vs:=Vm.store 2 (.slice mA r.1.length mc);have hst:=Writes.store wm (M:= [some gf]) (p:=⟨gf,2,none⟩) (by simp) (.slice mA r.1.length mc);have Os:=Za (bV Om hst hgB2);have Ps:=Za (Pr.out.pw hst (Mid.not hgB));obtain⟨ws,hws⟩:∃x,x=wm.setCell ⟨gf,2,none⟩ (.slice mA r.1.length mc):=⟨_,rfl⟩
      have zs:B2≤ws.heap.size:=by rw[hws];exact Nat.le_trans zm hst.size
      rw[←hws]at Vs Os Ps;replace Vs:=Za Vs;have hws2:=Za hws;have Nm2:=Za Nm;clear hws hst Vm Pm Wm Om a0 d0 d1 d2 d3 d4 d5 d6 dfz f0 fz c2 Nm;rw[hms];go_wp2_with fail;rw[←hws2.out];refine(bf Vs.out.mv [59] rfl).mono ?_;rintro e we ⟨rfl,qe,hWe⟩;have ze:=Nat.le_trans zs hWe.size;have Ve:=Vs.out.call qe;have Oe:=bV Os.out hWe hzB2;have Pe:=Ps.out.pw hWe (Mid.not hzB);have hbe:=Ve.at_.bounds.2.2.1;have hnx:=fun h=>jU (C:=C) (t:= [59]) (s:=r.2) h;have hwi:=(Stp.want (C:=C) [59] r.2).i1;have hwe:=(Stp.want (C:=C) [59] r.2).er
      have hmi:st.next.i≤r.2.i:=by rw[hr.out];exact(jm (C:=C) _ _ _ _).i1
      have hmn:r.2.e=0→st.next.i+1≤r.2.i∧r.1.length=ls.length+1:=fun h=>by rw[hr.out]at h⊢;exact nH h
      have hml:r.1.length≤ls.length+1:=by rw[hr.out];exact oV
      have hni:st.next.i=st.i+1:=rfl;have hfu:=hL.out.fuel he0
      have hL2:Hid (Fq C Z gf B B2 R2 nm R1.1 vp f' r.1 (aY C [59] r.2) (.slice mA r.1.length mc) w3 we):=
       Za ⟨hRn.out.symm,fun h=>by
        have h1:=hnx h
        have h2:r.2.e=0:=by
         by_cases h3:r.2.e=0
         ·exact h3
         ·exact absurd h (hwe h3)
        have h4:=hmn h2
        omega,by have h8:=hL.out.vf.at_.bounds.2.2.1;have h9:=Ve.at_.bounds.1;omega,Nm2.out,Ve,Oe,Pe,hBB2,ze⟩
      have hm1:=Za (hL.out.vf.mv.iY);have hm2:=Za (Ve.mv.iY);have hless:=Za (jA he0 (Nat.le_trans hbe b1) (by omega:st.i≤(aY C [59] r.2).i) (fun(h:(aY C [59] r.2).e=0)=>by have:=hnx h;omega));clear hnx hwi hwe hmi hmn hml hni hWe qe Ve Oe Pe hbe hfu;go_wp2_with fail;exact⟨⟨_,_,_,_,hL2⟩,by rw[hm1.out,hm2.out];exact hless.out⟩
theorem Bq (w:World) (n:Nat) (hn:n≤300000):
  Calls Tryz.prog 135 #[.slice none 0 0,.int .i64 n] w fun e w'=>∃v,e= .returned v∧w'.ownsRow w.heap.size 79 2 v 0 []∧Below w.heap.size w w':=by
 obtain⟨iA,hiA,hzA0,hzA1,hzA2⟩:=info_parts Tryz.clVar;rcases Nat.eq_zero_or_pos n with rfl|hpos
 ·go_enter Tryz.func135,Tryz.ntmps135;go_wp2_with fail;go_ret;exact⟨_,rfl,World.ownsRow_nil _ _ _ _,Below.refl _ _⟩
 ·have h1:¬((n:Int)<0):=by omega
  have h4:(n:Int)>0:=by omega
  have hrz:∀ty,(Builtin.append_ #[23,3] ty #[.slice none 0 0,.int .i64 (n:Int)]).run Tryz.prog w=
    .ok (.slice (some ⟨w.heap.size,0,none⟩) n (grownCap w n 0 79)) (w.drew.alloc (.cells (#[]++Builtin.zeroCells (Value.agg #[.string ⟨#[]⟩,.bool false]).cells n++Builtin.zeroCells (Value.agg #[.string ⟨#[]⟩,.bool false]).cells (grownCap w n 0 79-n)) 79)):=fun ty=>by
   have h:=Lib.run_append_grow_zeros (P:=Tryz.prog) w 23 3 ty 79 iA _ .i64 .i64 Tryz.underlying23 Tryz.underlying3 hiA hzA0 none 0 0 [] (by simpa using run_firstCells_none (P:=Tryz.prog) w.drew iA.size 0 0 0) n (by omega) (by omega) (by omega) (by omega) (by rw[hzA2];omega) (growslice_fits (by omega) (by rw[hzA2];omega));simpa using h
  have hGn:n≤grownCap w n 0 79:=grownCap_ge w _ _ _;have hGm:=grownCap_le_maxLen w n 0 79 (by unfold maxLen;omega);obtain⟨G,hG⟩:∃G,G=grownCap w n 0 79:=⟨_,rfl⟩;rw[←hG]at hrz hGn hGm
  have hG63:G≤9223372036854775807:=by unfold maxLen at hGm;omega
  obtain⟨cs,hcs⟩:∃y,y= #[]++Builtin.zeroCells (Value.agg #[.string ⟨#[]⟩,.bool false]).cells n++Builtin.zeroCells (Value.agg #[.string ⟨#[]⟩,.bool false]).cells (G-n):=⟨_,rfl⟩;rw[←hcs]at hrz
  have hsz:cs.size=G*2:=by rw[hcs];simp only[Array.size_append,size_zeroCells,Array.size_empty];have e2:(Value.agg #[.string ⟨#[]⟩,.bool false]).cells.size=2:=rfl;rw[e2];omega
  have hown:Hid ((w.drew.alloc (.cells cs 79)).ownsRow w.heap.size 79 2 (.slice (some ⟨w.heap.size,0,none⟩) 0 G) 0 []):=
   Za ⟨by simp,.inr ⟨w.heap.size,G,cs,rfl,Nat.le_refl _,heap_alloc_new w.drew _,Nat.zero_le _,hGm,hsz,by simp⟩⟩
  have hB:Hid (Below w.heap.size w (w.drew.alloc (.cells cs 79))):=Za ((Below.refl _ w).drew.trans (aA w.drew _));clear hG hcs hsz;go_enter Tryz.func135,Tryz.ntmps135;go_wp2_with (at_builtin;refine Lib.wpList_append_run _ rfl _ _ _ _ rfl _ _ rfl rfl _ _ (hrz _) ?_);go_ret;exact⟨_,rfl,hown.out,hB.out⟩
section
variable {P:Program} (w:World)
theorem kZ (base:Nat) (t ty e:TypeId) (i:TypeInfo) (z:Value) (size bytes:Nat) (ht:P.underlying t=some (.slice e)) (hi:P.info? e=some i) (hz:i.zero=some z)
  (hsize:i.size=size) (hby:i.bytes=bytes) (hzs:z.cells.size=size) (hsz:0<size)
  (v:Value) (n:Nat) (xs:List Value) (hown:w.ownsRow base e size v n xs)
  (A:Option Addr) (m c:Nat) (news:List Value) (hl:news.length=m*size) (hr:bI w Evr A news) (h1:∀u∈news,u.oneCell'=true)
  (h63:n+m≤maxLen) (hbytes:(n+m)*bytes≤140737488355328) (hbase:base≤w.heap.size):
  ∃v' w',(Builtin.append_ #[t,t] ty #[v,.slice A m c]).run P w= .ok v' w'∧w'.ownsRow base e size v' (n+m) (xs++news)∧w.grownBy w' v.ownBlock∧(v'.ownBlock=v.ownBlock∨v'.ownBlock=some w.heap.size):=by
 rcases A with _|ad
 ·have hn:news= []:=hr.none_;subst hn
  have hm:m=0:=by
   rcases Nat.eq_zero_or_pos m with h|h
   ·exact h
   ·have:0<m*size:=Nat.mul_pos h hsz;simp at hl;omega
  subst hm;exact⟨v,w,oP w base t ty e i size ht hi v n xs hown c,by simpa using hown,World.grownBy.refl w _,.inl rfl⟩
 ·obtain⟨v',w',hrun,h2,h3,_,h5⟩:=run_append_own_at (P:=P) w base t ty e i z size bytes ht hi hz hsize hby hzs hsz v n xs hown ad m c news hl (fun j u hu=>hr.add j u hu) h1 h63 hbytes hbase;exact⟨v',w',hrun,h2,h3,h5⟩
variable {w}
theorem gI {ops:Array Oper} {rest:List Oper} {o:Oper} {a:Act} {Q:Exit→Act→World→Prop} (hgd:o.guard=none) (s x:Operand) (t:TypeId)
  (ho:o.op= .call {callee:= .builtin .append,args:= #[s,x],argTypes:= #[t,t]})
  (base:Nat) (e:TypeId) (i:TypeInfo) (z:Value) (size bytes:Nat) (ht:P.underlying t=some (.slice e)) (hi:P.info? e=some i) (hz:i.zero=some z)
  (hsize:i.size=size) (hby:i.bytes=bytes) (hzs:z.cells.size=size) (hsz:0<size)
  (v:Value) (n:Nat) (xs:List Value) (hs:a.eval s=v) (hown:w.ownsRow base e size v n xs)
  (A:Option Addr) (m c:Nat) (news:List Value) (hx:a.eval x= .slice A m c) (hl:news.length=m*size) (hr:bI w Evr A news) (h1:∀u∈news,u.oneCell'=true)
  (h63:n+m≤maxLen) (hbytes:(n+m)*bytes≤140737488355328) (hbase:base≤w.heap.size)
  (h:∀v' w',w'.ownsRow base e size v' (n+m) (xs++news)→w.grownBy w' v.ownBlock→(v'.ownBlock=v.ownBlock∨v'.ownBlock=some w.heap.size)→wpList P ops Q rest (a.put o.dst v') w'):wpList P ops Q (o::rest) a w:=by
 refine wpList_plain hgd fun K hK=> ?_;obtain⟨v',w',hrun,h2,h3,h4⟩:=kZ (P:=P) w base t o.type e i z size bytes ht hi hz hsize hby hzs hsz v n xs hown A m c news hl hr h1 h63 hbytes hbase;unfold Oper.wp execOp;simp only[ho,resolve,invoke,builtin,Sem.run_bind,Sem.run_pure,Result.andThen_ok,List.map_toArray,List.map_cons,List.map_nil,hs,hx,hrun];exact hK _ _ (h v' w' h2 h3 h4)
end
theorem jO (l:List Vr):(l.flatMap Vr.cells).length=l.length*2:=by
 induction l with
 |nil=>rfl
 |cons v l ih=>rw[List.flatMap_cons,List.length_append,ih,List.length_cons];simp[Vr.cells];omega
theorem lu (l:List Vr):∀u∈l.flatMap Vr.cells,u.oneCell'=true:=by
 intro u hu;obtain⟨v,_,hv⟩:=List.mem_flatMap.1 hu;simp only[Vr.cells,List.mem_cons,List.not_mem_nil,or_false]at hv;rcases hv with rfl|rfl<;>rfl
theorem xZ (w:World) (g n1 n2 c1 c2:Nat) (A1 A2:Option Addr) (l1 l2:List Vr) (hH:Holds w g 23 #[.slice A1 n1 c1,.slice A2 n2 c2]) (h1:l1.length=n1) (h2:l2.length=n2) (hm1:n1≤100000) (hm2:n2≤100000)
  (hr1:bI w Evr A1 (l1.flatMap Vr.cells)) (hr2:bI w Evr A2 (l2.flatMap Vr.cells)):
  Calls Tryz.prog 82 #[.slice (some ⟨g,0,none⟩) 2 2] w fun e w'=>∃v,e= .returned v∧w'.ownsRow w.heap.size 79 2 v (n1+n2) ((l1++l2).flatMap Vr.cells)∧Below w.heap.size w w':=by
 obtain⟨iA,hiA,hzA0,hzA1,hzA2⟩:=info_parts Tryz.clVar;have q0:w.cell? ⟨g,0,none⟩=some (.slice A1 n1 c1):=hH.cell 0;have q1:w.cell? ⟨g,1,none⟩=some (.slice A2 n2 c2):=hH.cell 1;have ql:=hH.lt;have hH':=Za hH;have hr1':=Za hr1;have hr2':=Za hr2;have hl1:=Za (show(l1.flatMap Vr.cells).length=n1*2 by rw[jO,h1]);have hl2:=Za (show(l2.flatMap Vr.cells).length=n2*2 by rw[jO,h2]);have hol1:=Za (lu l1);have hol2:=Za (lu l2);clear hH hr1 hr2 h1 h2;go_enter Tryz.func82,Tryz.ntmps82;go_wp2_with fail;go_loopw [3,11] (fun sz i wl=>((i= .int .i64 0∧sz= .int .i64 0)∨(i= .int .i64 1∧sz= .int .i64 n1)∨(i= .int .i64 2∧sz= .int .i64 ((n1:Int)+(n2:Int))))∧Hid (wl=w)) (fun _ i _=>2-(intOf i).toNat)
 case atStart=>exact⟨.inl ⟨rfl,rfl⟩,Za rfl⟩
 obtain⟨hk,hwl⟩:=hrel;rename World=>wl;rw[hwl.out];clear hwl wl;rcases hk with⟨rfl,rfl⟩| ⟨rfl,rfl⟩| ⟨rfl,rfl⟩
 ·go_wp2_with fail;exact⟨⟨.inr (.inl ⟨rfl,by simp⟩),Za trivial⟩,by simp[intOf]⟩
 ·have hs0:¬((n1:Int)+(n2:Int)<0):=by omega
  go_wp2_with fail;exact⟨⟨.inr (.inr ⟨rfl,rfl⟩),Za trivial⟩,by simp[intOf]⟩
 ·go_wp2_with fail
  have hcast:((n1:Int)+(n2:Int))=((n1+n2:Nat):Int):=by omega
  rw[hcast];refine(Bq w (n1+n2) (by omega)).mono ?_;rintro e w2 ⟨v0,rfl,hO,hB⟩;have hO':=Za hO;have hB':=Za hB;clear hO hB hcast;have q0':=Za q0;have q1':=Za q1;go_wp2_with fail;go_loopw [6,27] (fun v i wl=>((i= .int .i64 0∧Hid (wl.ownsRow w.heap.size 79 2 v 0 []))∨(i= .int .i64 1∧Hid (wl.ownsRow w.heap.size 79 2 v n1 (l1.flatMap Vr.cells)))∨(i= .int .i64 2∧Hid (wl.ownsRow w.heap.size 79 2 v (n1+n2) ((l1++l2).flatMap Vr.cells))))∧Hid (Below w.heap.size w wl)) (fun _ i _=>2-(intOf i).toNat)
  case atStart=>exact⟨.inl ⟨rfl,hO'⟩,hB'⟩
  clear hO' hB' q0 q1;obtain⟨hk,hb0⟩:=hrel;rename World=>wl;rcases hk with⟨rfl,hv⟩| ⟨rfl,hv⟩| ⟨rfl,hv⟩
  ·have hO:=hv;obtain⟨vA,vc,hvs,-,-⟩:=bI.own (S:=fun _=>True) hO.out (fun _ _=>trivial);subst hvs;have q0:=(hb0.out.cell (p:=⟨g,0,none⟩) ql).trans q0'.out;have q1:=(hb0.out.cell (p:=⟨g,1,none⟩) ql).trans q1'.out;have hbs:=Za hb0.out.size;have hrw:=Za (hr1'.out.up hb0.out);go_wp2_with
    (at_builtin
     go_loud (refine gI rfl (.tmp 31) (.tmp 32) 23 rfl w.heap.size 79 iA _ 2 24 rfl hiA hzA0 hzA1 hzA2 rfl (by omega) (.slice vA 0 vc) 0 [] rfl hO.out A1 n1 c1 (l1.flatMap Vr.cells) rfl hl1.out hrw.out hol1.out (by unfold maxLen;omega) (by omega) hbs.out ?_)
     intro v4 w4 ho4 hg4 _;have hO4:=Za ho4;have hB4:=Za (hb0.out.trans ((Writes.bG hg4 (M:= [(Value.slice vA 0 vc).ownBlock]) (by simp)).below hbs.out (fun j hj=>bD hO.out (List.mem_singleton.1 hj).symm)))
     clear ho4 hg4)
   exact⟨⟨.inr (.inl ⟨rfl,Za (by have:=hO4.out;rw[Nat.zero_add,List.nil_append]at this;exact this)⟩),hB4⟩,by simp[intOf]⟩
  ·have hO:=hv;obtain⟨vA,vc,hvs,-,-⟩:=bI.own (S:=fun _=>True) hO.out (fun _ _=>trivial);subst hvs;have q0:=(hb0.out.cell (p:=⟨g,0,none⟩) ql).trans q0'.out;have q1:=(hb0.out.cell (p:=⟨g,1,none⟩) ql).trans q1'.out;have hbs:=Za hb0.out.size;have hrw:=Za (hr2'.out.up hb0.out);go_wp2_with
    (at_builtin
     go_loud (refine gI rfl (.tmp 31) (.tmp 32) 23 rfl w.heap.size 79 iA _ 2 24 rfl hiA hzA0 hzA1 hzA2 rfl (by omega) (.slice vA n1 vc) n1 (l1.flatMap Vr.cells) rfl hO.out A2 n2 c2 (l2.flatMap Vr.cells) rfl hl2.out hrw.out hol2.out (by unfold maxLen;omega) (by omega) hbs.out ?_)
     intro v4 w4 ho4 hg4 _;have hO4:=Za ho4;have hB4:=Za (hb0.out.trans ((Writes.bG hg4 (M:= [(Value.slice vA n1 vc).ownBlock]) (by simp)).below hbs.out (fun j hj=>bD hO.out (List.mem_singleton.1 hj).symm)))
     clear ho4 hg4)
   exact⟨⟨.inr (.inr ⟨rfl,Za (by have:=hO4.out;rw[←List.flatMap_append]at this;exact this)⟩),hB4⟩,by simp[intOf]⟩
  ·have hO:=hv;go_wp2_with fail;go_ret;exact⟨_,rfl,hO.out,hb0.out⟩
def cZ (l:List Vr) (x:List UInt8):Nat:=dX l.reverse x
theorem yX (l:List Vr) (v:Vr) (x:List UInt8):cZ (l++ [v]) x=if v.nm==x then(if v.ptr then 2 else 1)else cZ l x:=by
 unfold cZ;rw[List.reverse_append,List.reverse_singleton,List.singleton_append];rfl
theorem zI {k:ByteArray} {x:List UInt8}:k=ay x↔k.data.toList=x:=by
 constructor
 ·intro h;rw[h];simp[ay]
 ·intro h;subst h;cases k;simp[ay]
theorem EY (l:List Vr) (v:Vr):(fun j=>if j=ay v.nm then some (Value.int .i64 ((if v.ptr then 2 else 1:Nat):Int))else kF (cZ l) j)=kF (cZ (l++ [v])):=by
 funext j;unfold kF;rw[yX];by_cases h:j=ay v.nm
 ·have h2:=zI.1 h;rw[if_pos h,h2]
  have e:(v.nm==v.nm)=true:=by simp
  rw[e,if_pos rfl];cases v.ptr<;>rfl
 ·rw[if_neg h];have h2:¬j.data.toList=v.nm:=fun e=>h (zI.2 e)
  have e:(v.nm==j.data.toList)=false:=by rw[beq_eq_false_iff_ne];exact fun e=>h2 e.symm
  simp only[e,Bool.false_eq_true,if_false]
theorem uq {fn:Func} {p:Tmp} {ty:TypeId} {R:Ending→World→Prop} {a:Act} {w:World} {g:Nat} {t:TypeId} {cs:Array Value} {fs:Array Field} (h:fn.results= #[.cell p ty]) (hd0:a.defers= []) (hp:a.tmps.getD p undef= .pointer (some ⟨g,0,none⟩))
  (hg:Holds w g t cs) (hu:Tryz.prog.underlying ty=some (.struct fs)) (hi:(Tryz.prog.info? ty).map (·.size)=some cs.size)
  (hR:R (.returned (.agg cs)) w):bodyPost Tryz.prog fn R .ret a w:=by
 refine bodyPost_ret_by (v:= .agg cs) ?_ hd0 hR
 have hp':a.tmps[p]?.getD undef= .pointer (some ⟨g,0,none⟩):=by simpa[Array.getD_eq_getD_getElem?]using hp
 simp[results,h,hp',asAddr,run_loadVar_row w g t ty cs (0,0) _ hg hu rfl hi]
def fnC (nm:List UInt8) (A1 A2 A3:Option Addr) (n1 c1 n2 c2 n3 c3:Nat):Array Value:= #[.string (ay nm),.slice A1 n1 c1,.slice A2 n2 c2,.slice A3 n3 c3]
theorem oz (w:World) (nm:List UInt8) (ps ls:List Vr) (A1 A2 A3:Option Addr) (c1 c2 n3 c3:Nat) (h1:bY w Evr ps (.slice A1 ps.length c1)) (h2:bY w Evr ls (.slice A2 ls.length c2)):
  Calls Tryz.prog 37 #[.agg (fnC nm A1 A2 A3 ps.length c1 ls.length c2 n3 c3)] w fun e w'=>∃v,e= .returned v∧w'.ownsRow w.heap.size 79 2 v (ps.length+ls.length) ((ps++ls).flatMap Vr.cells)∧Below w.heap.size w w':=by
 obtain⟨A1',c1',e1,a1,a2,a3,a4⟩:=h1;injection e1 with e1 e1' e1'';subst e1 e1'';obtain⟨A2',c2',e2,b1,b2,b3,b4⟩:=h2;injection e2 with e2 e2' e2'';subst e2 e2'';obtain⟨n1,hn1⟩:∃y,y=ps.length:=⟨_,rfl⟩;obtain⟨n2,hn2⟩:∃y,y=ls.length:=⟨_,rfl⟩;rw[←hn1,←hn2];rw[←hn1]at a1;rw[←hn2]at b1;have ha:=aA w (.cells (fnC nm A1 A2 A3 n1 c1 n2 c2 n3 c3) 26);obtain⟨w1,hw1⟩:∃y,y=w.alloc (.cells (fnC nm A1 A2 A3 n1 c1 n2 c2 n3 c3) 26):=⟨_,rfl⟩;rw[←hw1]at ha;have hb:=aA w1 (.cells #[.slice A1 n1 c1,.slice A2 n2 c2] 23);obtain⟨w2,hw2⟩:∃y,y=w1.alloc (.cells #[.slice A1 n1 c1,.slice A2 n2 c2] 23):=⟨_,rfl⟩;rw[←hw2]at hb
 have hH:Holds w2 (w.heap.size+1) 23 #[.slice A1 n1 c1,.slice A2 n2 c2]:=by have:=Holds.new w1 23 #[.slice A1 n1 c1,.slice A2 n2 c2];rw[←hw2]at this;rw[show w.heap.size+1=w1.heap.size by rw[hw1];simp];exact this
 have hB:Below w.heap.size w w2:=ha.trans (hb.mono ha.size);have hcc:=Za (xZ w2 (w.heap.size+1) n1 n2 c1 c2 A1 A2 ps ls hH hn1.symm hn2.symm a1 b1 (a3.keep fun x hx _=>hB.block x hx) (b3.keep fun x hx _=>hB.block x hx));have hfold:Hid ((w.alloc (.cells (fnC nm A1 A2 A3 n1 c1 n2 c2 n3 c3) 26)).alloc (.cells #[.slice A1 n1 c1,.slice A2 n2 c2] 23)=w2):=Za (by rw[hw2,hw1]);have hB':=Za hB;unfold fnC at hfold;clear ha hw1 hb hw2 hH hB a3 b3 a4 b4 hn1 hn2;unfold fnC;go_enter Tryz.func37,Tryz.ntmps37;go_wp2_with fail;rw[hfold.out];refine hcc.out.mono ?_;rintro e w3 ⟨v,rfl,ho,hb⟩;obtain⟨vA,vc,rfl,-,-⟩:=bI.own (S:=fun _=>True) ho (fun _ _=>trivial);have ho':=Za (own_base ho hB'.out.size);have hb':=Za (hB'.out.trans (hb.mono hB'.out.size));clear ho hb;go_wp2_with fail;go_ret;exact⟨_,rfl,ho'.out,hb'.out⟩
theorem jB:∀(l:List Vr) {i:Nat} (hi:i<l.length) (r:Nat) (v:Value),(Vr.cells l[i])[r]? =some v→(l.flatMap Vr.cells)[i*2+r]? =some v
 | [],i,hi,_,_,_=>absurd hi (by simp)
 |a::l,i,hi,r,v,h=>by
  rw[List.flatMap_cons]
  cases i with
  |zero=>
   have hr:r<(Vr.cells a).length:=(List.getElem?_eq_some_iff.1 h).1;rw[Nat.zero_mul,Nat.zero_add,List.getElem?_append_left hr];exact h
  |succ i=>
   have e:(Vr.cells a).length=2:=rfl;rw[List.getElem?_append_right (by rw[e];omega),e];have:=jB l (i:=i) (by simpa using hi) r v (by simpa using h);rw[←this];congr 1;omega
structure VoL (A:Option Addr) (m gk gr:Nat) (l:List Vr) (k:Nat) (w0 w:World):Prop where
 row:bI w (fun x=>x≠m) A (l.flatMap Vr.cells)
 km:SMap w m k (kF (cZ (l.take k)))
 hk:Holds w gk 83 #[.map (some m)]
 hr:Holds w gr 83 #[.map none]
 bl:Below w0.heap.size w0 w
 m0:w0.heap.size≤m
 gm:gk≠m
 rm:gr≠m
 rk:gr≠gk
 r0:w0.heap.size≤gr
theorem VoL.below {A:Option Addr} {m gk gr k:Nat} {l:List Vr} {w0 w w':World} (h:VoL A m gk gr l k w0 w) (hb:Below w.heap.size w w'):VoL A m gk gr l k w0 w':=
 ⟨h.row.keep fun x hx _=>hb.block x hx,h.km.loc (hb.block m h.km.lt),h.hk.below hb h.hk.lt,h.hr.below hb h.hr.lt,h.bl.trans (hb.mono h.bl.size),h.m0,h.gm,h.rm,h.rk,h.r0⟩
theorem VoL.step {A:Option Addr} {m gk gr k:Nat} {l:List Vr} {w0 w:World} (h:VoL A m gk gr l k w0 w) (hk:k<l.length) (hN:k≤1000000) (hx:l[k].nm.length≤4096):
  ∃w',(Instr.mapUpdate 81 (.map (some m)) (.string (ay l[k].nm)) (.int .i64 ((if l[k].ptr then 2 else 1:Nat):Int))).run Tryz.prog w= .ok () w'∧VoL A m gk gr l (k+1) w0 w':=by
 obtain⟨w',hr,hm,hg,hs⟩:=h.km.store Tryz.underlying81 (k:=ay l[k].nm) (by simp[ay,ByteArray.size,maxLen];omega) hN (.int .i64 ((if l[k].ptr then 2 else 1:Nat):Int));have hW:Writes [some m] w w':=Writes.bG hg (by simp);refine⟨w',hr,h.row.keep fun x hx hS=>hW.block x hx (by simp;exact hS),?_,hW.holds h.hk (by simp;exact h.gm),hW.holds h.hr (by simp;exact h.rm),h.bl.trans (hW.below h.bl.size fun j hj=>by simp at hj;subst hj;exact h.m0),h.m0,h.gm,h.rm,h.rk,h.r0⟩;rw[EY]at hm;rw[List.take_add_one,List.getElem?_eq_getElem hk];exact hm
theorem VoL.at_ {A:Option Addr} {m gk gr k:Nat} {l:List Vr} {w0 w:World} (h:VoL A m gk gr l k w0 w) {i:Nat} (hi:i<l.length):∃b off,A=some ⟨b,off,none⟩∧w.cell? ⟨b,off+i*2,none⟩=some (.string (ay l[i].nm))∧w.cell? ⟨b,off+i*2+1,none⟩=some (.bool l[i].ptr):=by
 have hne:l.flatMap Vr.cells≠[]:=fun e=>by have:=jO l;rw[e]at this;simp at this;omega
 obtain⟨b,off,e,-,hc⟩:=h.row hne;refine⟨b,off,e,hc _ _ (jB l hi 0 _ rfl),?_⟩;rw[Nat.add_assoc];exact hc _ _ (jB l hi 1 _ rfl)
theorem mZ (w:World) (nm:List UInt8) (ps ls:List Vr) (A1 A2 A3:Option Addr) (c1 c2 n3 c3:Nat) (h1:bY w Evr ps (.slice A1 ps.length c1)) (h2:bY w Evr ls (.slice A2 ls.length c2)):
  Calls Tryz.prog 39 #[.agg (fnC nm A1 A2 A3 ps.length c1 ls.length c2 n3 c3)] w fun e w'=>∃m,e= .returned (.agg #[.map (some m)])∧w.heap.size≤m∧eX w' m (cZ (ps++ls))∧Below w.heap.size w w':=by
 have hnm:∀v∈ps++ls,v.nm.length≤4096:=by
  obtain⟨_,_,_,_,_,_,a4⟩:=h1;obtain⟨_,_,_,_,_,_,b4⟩:=h2;intro v hv;rcases List.mem_append.1 hv with hv|hv
  ·exact a4 v hv
  ·exact b4 v hv
 have hlen:ps.length≤100000∧ls.length≤100000:=by obtain⟨_,_,_,a1,_⟩:=h1;obtain⟨_,_,_,b1,_⟩:=h2;exact⟨a1,b1⟩
 have hnm':=Za hnm;have h1':=Za h1;have h2':=Za h2;clear h1 h2 hnm;have hdec:=Za (fun(w:World) (h1:bY w Evr ps (.slice A1 ps.length c1)) (h2:bY w Evr ls (.slice A2 ls.length c2))=>oz w nm ps ls A1 A2 A3 c1 c2 n3 c3 h1 h2);unfold fnC at hdec;obtain⟨n1,hn1⟩:∃y,y=ps.length:=⟨_,rfl⟩;obtain⟨n2,hn2⟩:∃y,y=ls.length:=⟨_,rfl⟩;rw[←hn1,←hn2]at hdec;rw[←hn1]at h1';rw[←hn2]at h2';rw[←hn1,←hn2]at hlen;rw[←hn1,←hn2];have hn1':=Za hn1;have hn2':=Za hn2;clear hn1 hn2;have hmm:= @run_makeMap Tryz.prog;unfold fnC;go_enter Tryz.func39,Tryz.ntmps39;go_wp2_with fail;obtain⟨wd,hwd⟩:∃x,x=(((w.alloc (.cells #[.string (ay nm),.slice A1 n1 c1,.slice A2 n2 c2,.slice A3 n3 c3] 26)).alloc (.cells #[.map none] 83)).alloc (.map #[] 0)).alloc (.cells #[.map (some (w.heap.size+1+1))] 83):=⟨_,rfl⟩
 have hB0:Below w.heap.size w wd:=by rw[hwd];exact((((Below.refl _ _).alloc (Nat.le_refl _) _).alloc (by simp) _).alloc (by simp;omega) _).alloc (by simp;omega) _
 have hKm:SMap wd (w.heap.size+1+1) 0 (kF (cZ ((ps++ls).take 0))):=by
  have e:kF (cZ ((ps++ls).take 0))=fun _=>none:=by funext j;rfl
  rw[e,hwd];have h0:=SMap.made ((w.alloc (.cells #[.string (ay nm),.slice A1 n1 c1,.slice A2 n2 c2,.slice A3 n3 c3] 26)).alloc (.cells #[.map none] 83));have h1:=h0.loc ((aA _ (.cells #[.map (some (w.heap.size+1+1))] 83)).block _ h0.lt);simpa using h1
 have hHk:Holds wd (w.heap.size+1+1+1) 83 #[.map (some (w.heap.size+1+1))]:=by rw[hwd];have:=Holds.new (((w.alloc (.cells #[.string (ay nm),.slice A1 n1 c1,.slice A2 n2 c2,.slice A3 n3 c3] 26)).alloc (.cells #[.map none] 83)).alloc (.map #[] 0)) 83 #[.map (some (w.heap.size+1+1))];simpa using this
 have hHr:Holds wd (w.heap.size+1) 83 #[.map none]:=by rw[hwd];have h0:=((Holds.new (w.alloc (.cells #[.string (ay nm),.slice A1 n1 c1,.slice A2 n2 c2,.slice A3 n3 c3] 26)) 83 #[.map none]).alloc (.map #[] 0)).alloc (.cells #[.map (some (w.heap.size+1+1))] 83);simpa using h0
 have hcd:=hdec.out wd (h1'.out.keep fun x hx _=>hB0.block x hx) (h2'.out.keep fun x hx _=>hB0.block x hx);obtain⟨m,hm⟩:∃x,x=w.heap.size+1+1:=⟨_,rfl⟩;obtain⟨gk,hgk⟩:∃x,x=w.heap.size+1+1+1:=⟨_,rfl⟩;obtain⟨gr,hgr⟩:∃x,x=w.heap.size+1:=⟨_,rfl⟩;rw[←hwd];rw[←hm]at hKm hHk hgk;rw[←hgk]at hHk;rw[←hgr]at hHr hm;have hmr:m=gr+1:=hm;have hkr:gk=m+1:=hgk;have hgr2:gr=w.heap.size+1:=hgr;have hgrH:=Za hgr;have hmH:=Za hm;have hgkH:=Za hgk;rw[show w.heap.size+1+1+1=gk by omega,show w.heap.size+1+1=m by omega,show w.heap.size+1=gr by omega];clear hwd hgr hm hgk;refine hcd.mono ?_;rintro e w2 ⟨v,rfl,ho,hb⟩;obtain⟨N,hN⟩:∃y,y=n1+n2:=⟨_,rfl⟩;rw[←hN]at ho
 obtain⟨vA,vc,rfl,hrow,hvc⟩:=bI.own (S:=fun x=>x≠m) ho (fun g hg=>by
  have:=bD ho hg;have:=hKm.lt
  omega)
 have hV0:Hid (VoL vA m gk gr (ps++ls) 0 w w2):=Za ⟨hrow,hKm.loc (hb.block m hKm.lt),hHk.below hb hHk.lt,hHr.below hb hHr.lt,hB0.trans (hb.mono hB0.size),by omega,by omega,by omega,by omega,by omega⟩;have hln:Hid ((ps++ls).length=N):=Za (by rw[List.length_append,←hn1'.out,←hn2'.out,hN])
 have hN6:N≤200000:=by omega
 clear ho hb hrow hKm hHk hHr hB0 hcd hmr hkr hgr2 hN;go_wp2_with fail;go_loopw [11] (fun i wl=>∃k:Nat,k≤N∧i= .int .i64 k∧Hid (VoL vA m gk gr (ps++ls) k w wl)) (fun i _=>N-(intOf i).toNat)
 case atStart=>exact⟨0,by omega,rfl,hV0⟩
 clear hV0;obtain⟨k,hk,rfl,hV⟩:=hrel;rename World=>wl;by_cases hlt:k<N
 ·have hlt2:k<(ps++ls).length:=by rw[hln.out];exact hlt
  obtain⟨b,off,rfl,q0,q1⟩:=hV.out.at_ hlt2;have hV1:=hV.out.below (aA wl (.cells #[.string (ay (ps++ls)[k].nm),.bool (ps++ls)[k].ptr] 79));obtain⟨w2,hrun,hV2⟩:=hV1.step hlt2 (by omega) (hnm'.out _ (List.getElem_mem _));have c0:wl.cell? ⟨gk,0,none⟩=some (.map (some m)):=hV.out.hk.cell 0;have cl:=hV.out.hk.lt;have hV3:=Za hV2;clear hV hV1 hV2;generalize (ps++ls)[k]=x at q0 q1 hrun;obtain⟨nx,px⟩:=x;simp only at q0 q1 hrun;cases px
  ·simp only[Bool.false_eq_true,if_false]at hrun;replace hrun:(Instr.mapUpdate 81 (.map (some m)) (.string (ay nx)) (.int .i64 1)).run Tryz.prog (wl.alloc (.cells #[.string (ay nx),.bool false] 79))= .ok () w2:=hrun;go_wp2_with fail;exact⟨⟨k+1,by omega,by simp,hV3⟩,by simp[intOf];omega⟩
  ·simp only[if_true]at hrun;replace hrun:(Instr.mapUpdate 81 (.map (some m)) (.string (ay nx)) (.int .i64 2)).run Tryz.prog (wl.alloc (.cells #[.string (ay nx),.bool true] 79))= .ok () w2:=hrun;go_wp2_with fail;exact⟨⟨k+1,by omega,by simp,hV3⟩,by simp[intOf];omega⟩
 ·obtain rfl:k=N:=by omega
  have c0:wl.cell? ⟨gk,0,none⟩=some (.map (some m)):=hV.out.hk.cell 0;have cl:=hV.out.hk.lt;have r0:wl.cell? ⟨gr,0,none⟩=some (.map none):=hV.out.hr.cell 0;have rz:=hV.out.hr.frozen 0;have rl:=hV.out.hr.lt;have hst:=Writes.store wl (M:= [some gr]) (p:=⟨gr,0,none⟩) (by simp) (.map (some m))
  have hHr:Holds (wl.setCell ⟨gr,0,none⟩ (.map (some m))) gr 83 #[.map (some m)]:=by have:=hV.out.hr.store 0 (.map (some m));simpa using this
  have hfin:Hid (w.heap.size≤m∧eX (wl.setCell ⟨gr,0,none⟩ (.map (some m))) m (cZ (ps++ls))∧Below w.heap.size w (wl.setCell ⟨gr,0,none⟩ (.map (some m)))):=Za (by
   refine⟨hV.out.m0,?_,hV.out.bl.trans (hst.below hV.out.bl.size fun j hj=>by simp at hj;subst hj;exact hV.out.r0)⟩;have h1:=hV.out.km;rw[List.take_of_length_le (by rw[hln.out];omega)]at h1
   exact(h1.loc (hst.block m h1.lt (by simp;exact fun e=>hV.out.rm e.symm))).more (by omega))
  have hHr2:=Za hHr;clear hV hst hHr;go_wp2_with fail;exact uq rfl rfl rfl hHr2.out Tryz.underlying83 (by kernel_rfl) ⟨m,rfl,hfin.out⟩
end Go.Proofs.YtpndglghpojjkaaGreat
namespace Go.Proofs.YtpndglghpojjkaaGreat
open Go.Lib
def kC:List S→Bool
 | []=>false
 |x::l=>l.contains x||kC l
theorem iR:∀(l:List S),kC l=false↔l.Nodup
 | []=>by simp[kC]
 |x::l=>by unfold kC;rw[Bool.or_eq_false_iff,List.nodup_cons,iR l];simp
theorem qF {α:Type} {p:α→Bool}:∀{l:List α},(l.filter p).length=l.length→∀x∈l,p x=true
 | [],_=>by simp
 |a::l,h=>by
  have hle:=List.length_filter_le p l;by_cases ha:p a=true
  ·rw[List.filter_cons_of_pos ha,List.length_cons,List.length_cons]at h;intro x hx;rcases List.mem_cons.1 hx with rfl|hx
   ·exact ha
   ·exact qF (by omega) x hx
  ·rw[List.filter_cons_of_neg ha,List.length_cons]at h;omega
theorem zA {l:List S} (h:(canon l).length=l.length):l.Nodup:=by
 have hs:=List.mergeSort_perm l (fun x y=>decide (x≤y));have hu:=oD l;unfold canon at h hu
 have e:compact (l.mergeSort fun x y=>decide (x≤y))=l.mergeSort fun x y=>decide (x≤y):=by
  refine compact_all _ fun j hj=> ?_;have hl:=List.length_mergeSort (le:=fun x y:S=>decide (x≤y)) l
  have h3:(compact (l.mergeSort fun x y=>decide (x≤y))).length=((List.range (l.mergeSort fun x y=>decide (x≤y)).length).filter (keeps (l.mergeSort fun x y=>decide (x≤y)).toArray)).length:=by unfold compact compactUpTo;rw[List.length_map]
  have h2:((List.range (l.mergeSort fun x y=>decide (x≤y)).length).filter (keeps (l.mergeSort fun x y=>decide (x≤y)).toArray)).length=(List.range (l.mergeSort fun x y=>decide (x≤y)).length).length:=by rw[←h3,h,List.length_range,hl]
  exact qF h2 j (List.mem_range.2 hj)
 rw[e]at hu;refine hs.nodup_iff.1 (hu.imp fun{a b} hab e2=> ?_);subst e2;exact List.lt_irrefl a hab
theorem uI:∀{l l':List S},l.Nodup→(∀x∈l,x∈l')→l.length≤l'.length
 | [],_,_,_=>by simp
 |a::l,l',hn,hs=>by
  obtain⟨h1,h2⟩:=List.nodup_cons.1 hn;have ha:=hs a (List.mem_cons_self ..)
  have:=uI (l:=l) (l':=l'.erase a) h2 fun x hx=>by have hne:x≠a:=fun e=>h1 (e▸hx);exact(List.mem_erase_of_ne hne).2 (hs x (List.mem_cons_of_mem _ hx))
  rw[List.length_erase_of_mem ha]at this;have hp:=List.length_pos_of_mem ha;rw[List.length_cons];omega
theorem BI (l:List S):decide ((canon l).length<l.length)=kC l:=by
 have hle:=uV l
 cases h:kC l with
 |false=>
  have:=uI (l':=canon l) ((iR l).1 h) fun x hx=>mO.2 hx;rw[decide_eq_false_iff_not];omega
 |true=>
  rw[decide_eq_true_eq];rcases Nat.lt_or_ge (canon l).length l.length with h2|h2
  ·exact h2
  ·have:=(iR l).2 (zA (by omega));rw[this]at h;cases h
end Go.Proofs.YtpndglghpojjkaaGreat
namespace Go.Proofs
open Go.Shelf
def Tryz.lays213_ren:Go.Shelf.Ren:=⟨fun|213=>164|265=>188|n=>n,fun|9=>9|3=>3|n=>n,fun|n=>n⟩
theorem Tryz.lays213:Go.Proofs.Lays.n213 Tryz.prog Tryz.lays213_ren:={
 mixed:=by kernel_rfl
 f213:=Tryz.func164.trans (congrArg some (by kernel_rfl))
 f265:=Tryz.func188.trans (congrArg some (by kernel_rfl))
 t3:=Tryz.underlying3
 a3:=Tryz.isAgg3
 z3:=Tryz.sizeOf3
 v3:=Tryz.zeroValue3
 t9:=Tryz.underlying9
 a9:=Tryz.isAgg9
 z9:=Tryz.sizeOf9
 v9:=Tryz.zeroValue9}
open Go.RowKit in
theorem Tryz.bytealg_CompareString (a b:ByteArray) (w:World):
  Calls Tryz.prog 164 #[.string a,.string b] w fun e w'=>e= .returned (.int .i64 (Lib.compareBytes a.data.toList b.data.toList))∧w'=w:=Any.bytealg_CompareString Tryz.lays213 a b w
def Tryz.lays106_ren:Go.Shelf.Ren:=⟨fun|106=>121|213=>164|265=>188|n=>n,fun|9=>9|3=>3|n=>n,fun|n=>n⟩
theorem Tryz.lays106:Go.Proofs.Lays.n106 Tryz.prog Tryz.lays106_ren:={
 mixed:=by kernel_rfl
 f106:=Tryz.func121.trans (congrArg some (by kernel_rfl))
 f213:=Tryz.func164.trans (congrArg some (by kernel_rfl))
 f265:=Tryz.func188.trans (congrArg some (by kernel_rfl))
 t3:=Tryz.underlying3
 a3:=Tryz.isAgg3
 z3:=Tryz.sizeOf3
 v3:=Tryz.zeroValue3
 t9:=Tryz.underlying9
 a9:=Tryz.isAgg9
 z9:=Tryz.sizeOf9
 v9:=Tryz.zeroValue9}
open Go.RowKit in
theorem Tryz.strings_Compare (a b:ByteArray) (w:World):
  Calls Tryz.prog 121 #[.string a,.string b] w fun e w'=>e= .returned (.int .i64 (Lib.compareBytes a.data.toList b.data.toList))∧w'=w:=Any.strings_Compare Tryz.lays106 a b w
def Tryz.lays190_ren:Go.Shelf.Ren:=⟨fun|190=>83|125=>137|258=>136|128=>177|129=>178|302=>168|303=>169|304=>170|305=>171|306=>172|307=>173|308=>174|309=>175|310=>176|333=>193|329=>194|330=>195|334=>196|335=>197|336=>198|344=>202|n=>n,fun|31=>35|9=>9|3=>3|46=>203|0=>0|51=>234|53=>144|4=>4|183=>228|182=>227|131=>177|5=>5|218=>246|222=>250|228=>254|229=>255|n=>n,fun|n=>n⟩
theorem Tryz.lays190:Go.Proofs.Lays.n190 Tryz.prog Tryz.lays190_ren:={
 mixed:=by kernel_rfl
 f125:=Tryz.func137.trans (congrArg some (by kernel_rfl))
 f128:=Tryz.func177.trans (congrArg some (by kernel_rfl))
 f129:=Tryz.func178.trans (congrArg some (by kernel_rfl))
 f190:=Tryz.func83.trans (congrArg some (by kernel_rfl))
 f258:=Tryz.func136.trans (congrArg some (by kernel_rfl))
 f302:=Tryz.func168.trans (congrArg some (by kernel_rfl))
 f303:=Tryz.func169.trans (congrArg some (by kernel_rfl))
 f304:=Tryz.func170.trans (congrArg some (by kernel_rfl))
 f305:=Tryz.func171.trans (congrArg some (by kernel_rfl))
 f306:=Tryz.func172.trans (congrArg some (by kernel_rfl))
 f307:=Tryz.func173.trans (congrArg some (by kernel_rfl))
 f308:=Tryz.func174.trans (congrArg some (by kernel_rfl))
 f309:=Tryz.func175.trans (congrArg some (by kernel_rfl))
 f310:=Tryz.func176.trans (congrArg some (by kernel_rfl))
 f329:=Tryz.func194.trans (congrArg some (by kernel_rfl))
 f330:=Tryz.func195.trans (congrArg some (by kernel_rfl))
 f333:=Tryz.func193.trans (congrArg some (by kernel_rfl))
 f334:=Tryz.func196.trans (congrArg some (by kernel_rfl))
 f335:=Tryz.func197.trans (congrArg some (by kernel_rfl))
 f336:=Tryz.func198.trans (congrArg some (by kernel_rfl))
 f344:=Tryz.func202.trans (congrArg some (by kernel_rfl))
 t0:=Tryz.underlying0
 a0:=Tryz.isAgg0
 z0:=Tryz.sizeOf0
 v0:=Tryz.zeroValue0
 t3:=Tryz.underlying3
 a3:=Tryz.isAgg3
 z3:=Tryz.sizeOf3
 v3:=Tryz.zeroValue3
 t4:=Tryz.underlying4
 a4:=Tryz.isAgg4
 z4:=Tryz.sizeOf4
 v4:=Tryz.zeroValue4
 t5:=Tryz.underlying5
 a5:=Tryz.isAgg5
 z5:=Tryz.sizeOf5
 v5:=Tryz.zeroValue5
 t9:=Tryz.underlying9
 a9:=Tryz.isAgg9
 z9:=Tryz.sizeOf9
 v9:=Tryz.zeroValue9
 t31:=Tryz.underlying35
 a31:=Tryz.isAgg35
 z31:=Tryz.sizeOf35
 v31:=Tryz.zeroValue35
 t46:=Tryz.underlying203
 a46:=Tryz.isAgg203
 z46:=Tryz.sizeOf203
 v46:=Tryz.zeroValue203
 t51:=Tryz.underlying234
 a51:=Tryz.isAgg234
 z51:=Tryz.sizeOf234
 v51:=Tryz.zeroValue234
 t53:=Tryz.underlying144
 a53:=Tryz.isAgg144
 z53:=Tryz.sizeOf144
 v53:=Tryz.zeroValue144
 t131:=Tryz.underlying177
 a131:=Tryz.isAgg177
 z131:=Tryz.sizeOf177
 v131:=Tryz.zeroValue177
 t182:=Tryz.underlying227
 a182:=Tryz.isAgg227
 z182:=Tryz.sizeOf227
 v182:=Tryz.zeroValue227
 t183:=Tryz.underlying228
 a183:=Tryz.isAgg228
 z183:=Tryz.sizeOf228
 v183:=Tryz.zeroValue228
 t218:=Tryz.underlying246
 a218:=Tryz.isAgg246
 z218:=Tryz.sizeOf246
 v218:=Tryz.zeroValue246
 t222:=Tryz.underlying250
 a222:=Tryz.isAgg250
 z222:=Tryz.sizeOf250
 v222:=Tryz.zeroValue250
 t228:=Tryz.underlying254
 a228:=Tryz.isAgg254
 z228:=Tryz.sizeOf254
 v228:=Tryz.zeroValue254
 t229:=Tryz.underlying255
 a229:=Tryz.isAgg255
 z229:=Tryz.sizeOf255
 v229:=Tryz.zeroValue255}
open Go.Sort Go.RowKit in
theorem Tryz.slices_Sort_string (blk off cap:Nat) (ss:List (List UInt8)) (w:World) (hH:Holds encStr w blk off ss.toArray) (hblk:blk<w.heap.size) (hsz:ss.length<4611686018427387904):
  Calls Tryz.prog 83 #[.slice (some ⟨blk,off,none⟩) ss.length cap] w fun e w'=>
   e= .returned (.tuple #[])∧∃n os,w'=grow (putRow encStr (Sort.ahead w n) blk off (ss.mergeSort fun x y=>decide (x≤y)).toArray) os:=Any.slices_Sort_string Tryz.lays190 blk off cap ss w hH hblk hsz
def Tryz.laysNm216_ren:Go.Shelf.Ren:=⟨fun|16=>77|n=>n,fun|24=>35|9=>9|4=>4|n=>n,fun|n=>n⟩
theorem Tryz.laysNm216:Go.Proofs.Lays2.n16 Tryz.prog Tryz.laysNm216_ren:={
 mixed:=by kernel_rfl
 f16:=Tryz.func77.trans (congrArg some (by kernel_rfl))
 t4:=Tryz.underlying4
 a4:=Tryz.isAgg4
 z4:=Tryz.sizeOf4
 v4:=Tryz.zeroValue4
 t9:=Tryz.underlying9
 a9:=Tryz.isAgg9
 z9:=Tryz.sizeOf9
 v9:=Tryz.zeroValue9
 t24:=Tryz.underlying35
 a24:=Tryz.isAgg35
 z24:=Tryz.sizeOf35
 v24:=Tryz.zeroValue35
 i9:=by kernel_rfl}
open Go.RowKit Go.Lib in
theorem Tryz.slices_Clone_string (b off n c:Nat) (zs:List ByteArray) (w:World) (hz:n≤zs.length) (hbig:n*16≤140737488355328) (hc:∀j,j<zs.length→w.cell? ⟨b,off+j,none⟩=some (.string (zs.getD j ByteArray.empty))):
  Calls Tryz.prog 77 #[.slice (some ⟨b,off,none⟩) n c] w fun e w'=>∃v',e= .returned v'∧w'.ownsRow w.heap.size 9 1 v' n ((zs.take n).map (Value.string))∧v'≠.slice none 0 0∧Below w.heap.size w w':=Any.slices_Clone_string Tryz.laysNm216 b off n c zs w hz hbig hc
open Go.RowKit Go.Lib in
theorem Tryz.slices_Clone_string_nil (n c:Nat) (w:World):
  Calls Tryz.prog 77 #[.slice none n c] w fun e w'=>e= .returned (.slice none 0 0)∧w'=w:=Any.slices_Clone_string_nil Tryz.laysNm216 n c w
open Go.RowKit Go.Lib in
theorem Tryz.slices_Clone_string_zero (a:Addr) (c:Nat) (w:World):
  Calls Tryz.prog 77 #[.slice (some a) 0 c] w fun e w'=>∃v',e= .returned v'∧w'.ownsRow w.heap.size 9 1 v' 0 []∧v'≠.slice none 0 0∧Below w.heap.size w w':=Any.slices_Clone_string_zero Tryz.laysNm216 a c w
def Tryz.lays194_ren:Go.Shelf.Ren:=⟨fun|194=>84|n=>n,fun|31=>35|9=>9|3=>3|4=>4|0=>0|n=>n,fun|n=>n⟩
theorem Tryz.lays194:Go.Proofs.Lays.n194 Tryz.prog Tryz.lays194_ren:={
 mixed:=by kernel_rfl
 f194:=Tryz.func84.trans (congrArg some (by kernel_rfl))
 t0:=Tryz.underlying0
 a0:=Tryz.isAgg0
 z0:=Tryz.sizeOf0
 v0:=Tryz.zeroValue0
 t3:=Tryz.underlying3
 a3:=Tryz.isAgg3
 z3:=Tryz.sizeOf3
 v3:=Tryz.zeroValue3
 t4:=Tryz.underlying4
 a4:=Tryz.isAgg4
 z4:=Tryz.sizeOf4
 v4:=Tryz.zeroValue4
 t9:=Tryz.underlying9
 a9:=Tryz.isAgg9
 z9:=Tryz.sizeOf9
 v9:=Tryz.zeroValue9
 t31:=Tryz.underlying35
 a31:=Tryz.isAgg35
 z31:=Tryz.sizeOf35
 v31:=Tryz.zeroValue35}
open Go.RowKit Go.Lib Go.Sort in
theorem Tryz.slices_Compact_string_arr (blk off cap:Nat) (d:Array (List UInt8)) (w:World) (hH:Holds encStr w blk off d) (hsz:d.size≤9223372036854775807) (hcap:d.size≤cap):
  Calls Tryz.prog 84 #[.slice (some ⟨blk,off,none⟩) d.size cap] w fun e w'=>e= .returned (.slice (some ⟨blk,off,none⟩) (compactUpTo d d.size).length cap)∧∃q,w'=putRow encStr (Sort.ahead w q) blk off (compactUpTo d d.size++List.replicate (d.size-(compactUpTo d d.size).length) []).toArray:=Any.slices_Compact_string_arr Tryz.lays194 blk off cap d w hH hsz hcap
open Go.RowKit Go.Lib Go.Sort in
theorem Tryz.slices_Compact_string (blk off cap:Nat) (zs:List (List UInt8)) (w:World) (hH:Holds encStr w blk off zs.toArray) (hsz:zs.length≤9223372036854775807) (hcap:zs.length≤cap):
  Calls Tryz.prog 84 #[.slice (some ⟨blk,off,none⟩) zs.length cap] w fun e w'=>e= .returned (.slice (some ⟨blk,off,none⟩) (Lib.compact zs).length cap)∧∃q,w'=putRow encStr (Sort.ahead w q) blk off (Lib.compact zs++List.replicate (zs.length-(Lib.compact zs).length) []).toArray:=Any.slices_Compact_string Tryz.lays194 blk off cap zs w hH hsz hcap
open Go.RowKit Go.Lib Go.Sort in
theorem Tryz.slices_Compact_string_empty (a:Option Addr) (cap:Nat) (w:World):
  Calls Tryz.prog 84 #[.slice a 0 cap] w fun e w'=>e= .returned (.slice a 0 cap)∧w'=w:=Any.slices_Compact_string_empty Tryz.lays194 a cap w
open Go.RowKit Go.Lib Go.Sort in
theorem Tryz.slices_Compact_string_cells (b off n c:Nat) (Sx:Nat→ByteArray) (w:World) (hbig:n≤9223372036854775807) (hcap:n≤c) (hc:∀i,i<n→w.cell? ⟨b,off+i,none⟩=some (.string (Sx i))) (hf:∀j,j<n→w.frozen? ⟨b,off+j,none⟩=false):
  Calls Tryz.prog 84 #[.slice (some ⟨b,off,none⟩) n c] w fun e w'=>e= .returned (.slice (some ⟨b,off,none⟩) (Lib.compact (Lib.strsOf Sx n)).length c)∧∃q,w'=(w.drewN q).setCells b off ((Lib.compact (Lib.strsOf Sx n)++List.replicate (n-(Lib.compact (Lib.strsOf Sx n)).length) []).map encStr):=Any.slices_Compact_string_cells Tryz.lays194 b off n c Sx w hbig hcap hc hf
open Go.RowKit Go.Sort in
theorem Tryz.slices_Sort_string_none (p:Option Addr) (cap:Nat) (w:World):
  Calls Tryz.prog 83 #[.slice p 0 cap] w fun e w'=>e= .returned (.tuple #[])∧w'=w:=Any.slices_Sort_string_none Tryz.lays190 p cap w
end Go.Proofs
namespace Go.Proofs.YtpndglghpojjkaaGreat
open Go.RowKit
theorem Tryz.infoStr:(Tryz.prog.info? 9).map (fun i=>(i.zero,i.size,i.bytes))=some (some (.string ⟨#[]⟩),1,16):=by kernel_rfl
theorem Dq {w:World} {base:Nat} {e:TypeId} {v:Value} {n:Nat} {xs:List Value} (h:w.ownsRow base e 1 v n xs):∃A c,v= .slice A n c∧Row w w.heap.size A xs∧n≤c:=by
 obtain⟨A,c,e,hr,_,hc⟩:=zL h;exact⟨A,c,e,hr,hc⟩
def Lists (w:World) (B:Nat) (A:Option Addr) (ls:List (List S)):Prop:=
 ∃vs:List Value,vs.length=ls.length∧Row w B A vs∧∀i (h:i<ls.length),∃Ai ci,vs[i]? =some (.slice Ai ls[i].length ci)∧Row w B Ai (ls[i].map encStr)
theorem Lists.below {w w':World} {B:Nat} {A:Option Addr} {ls:List (List S)} (h:Lists w B A ls) (hb:Below B w w'):Lists w' B A ls:=by
 obtain⟨vs,hl,hr,hi⟩:=h
 exact⟨vs,hl,hr.below hb,fun i hlt=>by
  obtain⟨Ai,ci,h1,h2⟩:=hi i hlt
  exact⟨Ai,ci,h1,Row.below h2 hb⟩⟩
theorem Lists.at_ {w:World} {B:Nat} {A:Option Addr} {ls:List (List S)} {k:Nat} (h:Lists w B A ls) (hk:k<ls.length):
  ∃b off Ai ci,A=some ⟨b,off,none⟩∧b<B∧w.cell? ⟨b,off+k,none⟩=some (.slice Ai ls[k].length ci)∧Row w B Ai (ls[k].map encStr):=by
 obtain⟨vs,hl,hr,hi⟩:=h;obtain⟨Ai,ci,h1,h2⟩:=hi k hk;obtain⟨b,off,e,hb,hc⟩:=hr.at_ (k:=k) (by omega)
 have:vs[k]'(by omega)= .slice Ai ls[k].length ci:=by have h4:=List.getElem?_eq_getElem (l:=vs) (i:=k) (by omega);rw[h4]at h1;exact Option.some.inj h1
 exact⟨b,off,Ai,ci,e,hb,by rw[hc,this],h2⟩
theorem Lists.one {w:World} (t:TypeId) {A:Option Addr} {n c:Nat} {l:List S} (hn:l.length=n) (h:Row w w.heap.size A (l.map encStr)):
  Lists (w.alloc (.cells #[.slice A n c] t)) (w.alloc (.cells #[.slice A n c] t)).heap.size (some ⟨w.heap.size,0,none⟩) [l]:=by
 subst hn;refine⟨_,rfl,Row.fresh w t [.slice A l.length c],fun i hi=> ?_⟩
 match i,hi with
 |0,_=>exact⟨A,c,rfl,(h.below (aA w _)).more (aA w _).size⟩
open Go.Sort in
theorem wP {w w1:World} {g cap n nn q:Nat} {os:Array Obj} {ss:List S} (hown:w1.ownsRow w.heap.size 9 1 (.slice (some ⟨g,0,none⟩) n cap) n (ss.map encStr)) (hbel:Below w.heap.size w w1) (hbg:w.heap.size≤g) (hlen:ss.length=n):
  (putRow encStr (Sort.ahead (grow (putRow encStr (Sort.ahead w1 nn) g 0 (ss.mergeSort fun x y=>decide (x≤y)).toArray) os) q) g 0 (canon ss++List.replicate (n-(canon ss).length) []).toArray).ownsRow w.heap.size 9 1 (.slice (some ⟨g,0,none⟩) (canon ss).length cap) (canon ss).length ((canon ss).map encStr)∧
  Below w.heap.size w (putRow encStr (Sort.ahead (grow (putRow encStr (Sort.ahead w1 nn) g 0 (ss.mergeSort fun x y=>decide (x≤y)).toArray) os) q) g 0 (canon ss++List.replicate (n-(canon ss).length) []).toArray):=by
 have hl2:(ss.mergeSort fun x y=>decide (x≤y)).length=ss.length:=List.length_mergeSort ss;have hle:=uV ss;subst hlen;rcases hown.2 with⟨h0,_⟩| ⟨g',cap',cur,hv,hbase,hb,h1,h2,h3,h4⟩
 ·cases h0
 cases hv;have hs:=ownsRow_sorted (n:=nn) (os:=os) (ts:=ss.mergeSort fun x y=>decide (x≤y)) hl2 hbase hb h1 h2 h3;have hc:=Lib.ownsRow_putRow (q:=q) (k:=(canon ss).length) (ys:=canon ss++List.replicate (ss.length-(canon ss).length) []) hs (by simp;omega) (by omega);rw[List.take_left]at hc;exact⟨hc,Lib.below_putRow (hbel.grown (grownBy_sorted _) hbel.size (fun j hj=>by cases hj;exact hbase)) hbg⟩
theorem tV (w0 w:World) (v:Value) (l:List S) (hl:l.length≤1000000) (ho:w.ownsRow w0.heap.size 9 1 v l.length (l.map encStr)) (hb:Below w0.heap.size w0 w):
  Calls Tryz.prog 38 #[v] w fun e w'=>e= .returned (.bool (kC l))∧Below w0.heap.size w0 w':=by
 by_cases hnil:v= .slice none 0 0
 ·subst hnil
  have hss0:l= []:=by
   rcases ho.2 with⟨_,h⟩| ⟨g,cap,cur,h,_⟩
   ·exact List.eq_nil_of_length_eq_zero h
   ·cases h
  subst hss0;have hb1:=Za hb;clear ho hb;go_enter Tryz.func38,Tryz.ntmps38;go_wp2_with fail;refine(Tryz.slices_Sort_string_none none 0 w).mono ?_;rintro e w2 ⟨rfl,rfl⟩;go_wp2_with fail;refine(Tryz.slices_Compact_string_empty none 0 w2).mono ?_;rintro e w3 ⟨rfl,rfl⟩;go_wp2_with fail;go_ret;exact⟨rfl,hb1.out⟩
 ·obtain⟨g,cap,hv,hbg,hgl,hnc,hcm,hlen,hH⟩:=Lib.holds_of_ownsRow ho hnil;subst hv;have hfin:=Za (fun nn os q=>wP (nn:=nn) (os:=os) (q:=q) (ss:=l) ho hb hbg rfl);have hsort:=Za (Tryz.slices_Sort_string g 0 cap l w hH hgl (by omega))
  have hH2:Hid (∀nn os,Sort.Holds encStr (Sort.grow (Sort.putRow encStr (Sort.ahead w nn) g 0 (l.mergeSort fun x y=>decide (x≤y)).toArray) os) g 0 (l.mergeSort fun x y=>decide (x≤y)).toArray):=Za fun nn os=>
   Sort.holds_grow encStr _ os g 0 _ (by simpa[Sort.putRow,Sort.mapBlock,Sort.ahead]using hgl) (Sort.holds_putRow encStr _ g 0 _ _ (Sort.holds_ahead encStr w nn g 0 _ hH) (by simp))
  have hl2:Hid ((l.mergeSort fun x y=>decide (x≤y)).length=l.length):=Za (List.length_mergeSort l);have hnc':=Za hnc;have hdup:=Za (BI l);clear ho hb hH hnil hlen hnc;go_enter Tryz.func38,Tryz.ntmps38;go_wp2_with fail;refine hsort.out.mono ?_;rintro e w2 ⟨rfl,nn,os,rfl⟩;clear hsort;go_wp2_with fail;have hcomp:=Tryz.slices_Compact_string g 0 cap (l.mergeSort fun x y=>decide (x≤y)) _ (hH2.out nn os) (by rw[hl2.out];omega) (by rw[hl2.out];exact hnc'.out);rw[hl2.out]at hcomp;refine hcomp.mono ?_;rintro e w3 ⟨rfl,q,rfl⟩;have hf:=Za (hfin.out nn os q);clear hcomp hH2 hfin;go_wp2_with fail;go_ret;refine⟨?_,hf.out.2⟩;rw[←hdup.out];congr 2
end Go.Proofs.YtpndglghpojjkaaGreat
