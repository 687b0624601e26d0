/-
  9 texts of the proof, in one file: no condition.
-/
import Derived.Lib.Walk
import Derived.Lib.AppendZerosOnto
import Derived.RegionTactic
import Derived.ChangeAlike
import Derived.BigRegion
import Derived.Test.YtpndglghpojjkaaGreatPea6
set_option maxRecDepth 1000000
set_option maxHeartbeats 8000000
namespace Go.Proofs.YtpndglghpojjkaaGreat
open Go.RowKit Go.Deep
def VrAt (w:World) (S:Nat→Prop) (l:List Vr) (v:Value):Prop:=∃A c,v= .slice A l.length c∧l.length≤100000∧l.length≤c∧RowS w S A (l.flatMap Vr.cells)∧∀x∈l,x.nm.length≤4096
section
variable {w w':World} {S S':Nat→Prop} {l:List Vr} {v:Value}
theorem VrAt.keep (hk:∀x,x<w.heap.size→S x→w'.heap[x]? =w.heap[x]?) (h:VrAt w S l v):VrAt w' S l v:=by
 obtain⟨A,c,e,h1,h2,h3,h4⟩:=h;exact⟨A,c,e,h1,h2,h3.keep hk,h4⟩
theorem VrAt.mono (hk:∀x,x<w.heap.size→S x→S' x) (h:VrAt w S l v):VrAt w S' l v:=by
 obtain⟨A,c,e,h1,h2,h3,h4⟩:=h;exact⟨A,c,e,h1,h2,h3.mono hk,h4⟩
theorem VrAt.nil_ (w:World) (S:Nat→Prop):VrAt w S [] (.slice none 0 0):=⟨none,0,rfl,by simp,by simp,RowS.nil_ _ _ _,by simp⟩
theorem VrAt.own {base:Nat} (h:w.ownsRow base 79 2 v l.length (l.flatMap Vr.cells)) (hl:l.length≤100000) (hn:∀x∈l,x.nm.length≤4096):VrAt w (Ge base) l v:=by
 obtain⟨A,c,e,hr,hc⟩:=RowS.own (S:=Ge base) h (fun g hg=>ownK_ge h hg);exact⟨A,c,e,hl,hc,hr,hn⟩
end
structure FnAt (w:World) (S:Nat→Prop) (f:Fnc) (vp vl vb:Value):Prop where
 nm:f.nm.length≤4096
 ps:VrAt w S f.ps vp
 ls:VrAt w S f.ls vl
 body:SlAt w S f.body vb
theorem FnAt.keep {w w':World} {S:Nat→Prop} {f:Fnc} {vp vl vb:Value} (hk:∀x,x<w.heap.size→S x→w'.heap[x]? =w.heap[x]?) (h:FnAt w S f vp vl vb):FnAt w' S f vp vl vb:=⟨h.nm,h.ps.keep hk,h.ls.keep hk,h.body.keep hk⟩
theorem FnAt.mono {w:World} {S S':Nat→Prop} {f:Fnc} {vp vl vb:Value} (hk:∀x,x<w.heap.size→S x→S' x) (h:FnAt w S f vp vl vb):FnAt w S' f vp vl vb:=⟨h.nm,h.ps.mono hk,h.ls.mono hk,h.body.mono hk⟩
theorem FnAt.below {w w':World} {S:Nat→Prop} {f:Fnc} {vp vl vb:Value} (h:FnAt w S f vp vl vb) (hb:Below w.heap.size w w'):FnAt w' S f vp vl vb:=h.keep fun x hx _=>hb.block x hx
def FnPost (r:Fnc×Nat×Nat) (w:World) (e:Ending) (w':World):Prop:=
 ∃vp vl vb,e= .returned (.tuple #[.agg #[.string (strV r.1.nm),vp,vl,vb],.int .i64 r.2.1,.int .i64 r.2.2])∧FnAt w' (Ge w.heap.size) r.1 vp vl vb∧Below w.heap.size w w'
structure VF (C:PC) (Z:PL) (gf B:Nat) (s:PS) (cs:Array Value) (w0 w:World):Prop where
 at_:PAt C Z s w
 wr:Writes [some Z.g,some gf] w0 w
 hold:Holds w gf 26 cs
 lt:Z.g<gf
 low:gf<B
 low0:w0.heap.size=B
section
variable {C:PC} {Z:PL} {gf B:Nat} {s s2:PS} {cs:Array Value} {w0 w w':World}
theorem VF.mv (h:VF C Z gf B s cs w0 w):Moved C Z s w w:=Moved.refl h.at_
theorem VF.lt2 (h:VF C Z gf B s cs w0 w):Z.g<B:=Nat.lt_trans h.lt h.low
theorem VF.ltB (h:VF C Z gf B s cs w0 w):Z.g<B:=Nat.lt_trans h.lt h.low
theorem VF.szB (h:VF C Z gf B s cs w0 w):B≤w.heap.size:=by rw[←h.low0];exact h.wr.size
theorem VF.call (h:VF C Z gf B s cs w0 w) (hm:Moved C Z s2 w w'):VF C Z gf B s2 cs w0 w':=
 ⟨hm.at_,h.wr.trans (hm.wr.more (by simp)),hm.wr.holds h.hold (by have:=h.lt;simp;omega),h.lt,h.low,h.low0⟩
theorem VF.store (h:VF C Z gf B s cs w0 w) (i:Nat) (v:Value):VF C Z gf B s (cs.setIfInBounds i v) w0 (w.setCell ⟨gf,i,none⟩ v):=
 ⟨h.at_.writes (Writes.store w (M:= [some gf]) (by simp) v) (fun k hk=>by simp at hk;subst hk;exact h.lt),h.wr.trans (Writes.store w (by simp) v),h.hold.store i v,h.lt,h.low,h.low0⟩
theorem VF.fact (h:VF C Z gf B s cs w0 w) (i:Nat) {v:Value} (hv:cs[i]? =some v):w.cell? ⟨gf,i,none⟩=some v:=by rw[h.hold.cell];exact hv
theorem VF.facts (h:VF C Z gf B s cs w0 w):gf<w.heap.size∧(∀i,w.frozen? ⟨gf,i,none⟩=false):=⟨h.hold.lt,fun i=>h.hold.frozen i⟩
theorem take_both {L:PL} {b:Bool} {t:List UInt8} (hM:Moved C L s w0 w) (h:takeF C t s=(b,s2)):Calls Tryz.prog 31 #[.pointer (some ⟨L.g,0,none⟩),.string ⟨t.toArray⟩] w fun e w'=>e= .returned (.bool b)∧Moved C L s2 w0 w'∧Writes [some L.g] w w':=by
 unfold takeF at h;split at h
 ·injection h with h1 h2;subst h1 h2;exact take_yes hM t ‹_› rfl
 ·injection h with h1 h2;subst h1 h2;exact take_no hM t (by simpa using ‹¬isF C t s=true›)
end
structure MoreAt (C:PC) (Z:PL) (gf B:Nat) (nm:List UInt8) (vp:Value) (r:List Vr×PS) (w0 w:World) (v:Value):Prop where
 vf:VF C Z gf B r.2 #[.string (strV nm),vp,.slice none 0 0,.slice none 0 0] w0 w
 own:w.ownsRow B 79 2 v r.1.length (r.1.flatMap Vr.cells)
 nms:∀x∈r.1,x.nm.length≤4096
def MoreDone (C:PC) (Z:PL) (gf B:Nat) (nm:List UInt8) (r:List Vr×PS) (w0 w:World) (v:Value):Prop:=
 VF C Z gf B r.2 #[.string (strV nm),v,.slice none 0 0,.slice none 0 0] w0 w∧w.ownsRow B 79 2 v r.1.length (r.1.flatMap Vr.cells)∧∀x∈r.1,x.nm.length≤4096
section
variable {C:PC} {Z:PL} {gf B:Nat} {s s2:PS} {nm:List UInt8} {vp v:Value} {r:List Vr×PS} {w0 w w':World} {ps:List Vr}
theorem MoreAt.cell (h:MoreAt C Z gf B nm vp r w0 w v):w.cell? ⟨gf,1,none⟩=some vp:=h.vf.fact 1 rfl
theorem MoreAt.shape (h:MoreAt C Z gf B nm vp r w0 w v):∃A n c,v= .slice A n c:=by
 obtain⟨A,c,e,-,-⟩:=RowS.own (S:=fun _=>True) h.own (fun _ _=>trivial);exact⟨A,_,c,e⟩
theorem MoreAt.lt (h:MoreAt C Z gf B nm vp r w0 w v):gf<w.heap.size:=h.vf.hold.lt
theorem MoreAt.frozen (h:MoreAt C Z gf B nm vp r w0 w v):w.frozen? ⟨gf,1,none⟩=false:=h.vf.hold.frozen 1
theorem own_st {e:TypeId} {k n:Nat} {xs:List Value} (h:w.ownsRow B e k v n xs) (hg:gf<B) (i:Nat) (u:Value):(w.setCell ⟨gf,i,none⟩ u).ownsRow B e k v n xs:=own_pw h (Writes.store w (by simp) u) hg
theorem MoreAt.done (h:MoreAt C Z gf B nm vp r w0 w v):MoreDone C Z gf B nm r w0 (w.setCell ⟨gf,1,none⟩ v) v:=⟨h.vf.store 1 v,own_st h.own h.vf.low 1 v,h.nms⟩
theorem MoreAt.of {n:Nat} {xs:List Value} (h:VF C Z gf B s #[.string (strV nm),vp,.slice none 0 0,.slice none 0 0] w0 w) (h2:w.ownsRow B 79 2 vp n xs) (hP:PAt C Z r.2 w') (hW:Writes [some Z.g,vp.ownBlock] w w')
  (hO:w'.ownsRow B 79 2 v r.1.length (r.1.flatMap Vr.cells)) (hN:∀x∈r.1,x.nm.length≤4096):MoreAt C Z gf B nm vp r w0 w' v:=by
 refine⟨⟨hP,h.wr.then_ hW (fun k hk hm=> ?_),hW.holds h.hold ?_,h.lt,h.low,h.low0⟩,hO,hN⟩
 ·simp only[List.mem_cons,List.not_mem_nil,or_false]at hm;rcases hm with hm|hm
  ·rw[hm];simp
  ·have:=ownK_ge h2 hm.symm;have:=h.low0;omega
 ·simp only[List.mem_cons,List.not_mem_nil,or_false,not_or];refine⟨by have:=h.lt;simp;omega,fun e=> ?_⟩;have:=ownK_ge h2 e.symm;have:=h.low;omega
structure MReg (C:PC) (Z:PL) (gf B:Nat) (st s1:PS) (nm:List UInt8) (vp:Value) (ps:List Vr) (r:List Vr×PS) (w0:World) (l4 l5 l7:Bool) (w:World):Prop where
 o1:l7=true→l5=true
 o2:l5=true→l4=true
 a:l4=false→VF C Z gf B st #[.string (strV nm),vp,.slice none 0 0,.slice none 0 0] w0 w∧w.ownsRow B 79 2 vp ps.length (ps.flatMap Vr.cells)
 b:l4=true→l5=false→VF C Z gf B s1 #[.string (strV nm),vp,.slice none 0 0,.slice none 0 0] w0 w∧w.ownsRow B 79 2 vp ps.length (ps.flatMap Vr.cells)
 c:l7=true→∃v,MoreDone C Z gf B nm r w0 w v
theorem MReg.cell {st s1:PS} {l4 l5 l7:Bool} (h:MReg C Z gf B st s1 nm vp ps r w0 l4 l5 l7 w) (h5:l5=false):w.cell? ⟨gf,1,none⟩=some vp:=by
 cases h4:l4 with
 |true=>exact(h.b h4 h5).1.fact 1 rfl
 |false=>exact(h.a h4).1.fact 1 rfl
end
theorem ret_cell3 {fn:Func} {p u v:Tmp} {ty:TypeId} {R:Ending→World→Prop} {a:Act} {w:World} {g:Nat} {t:TypeId} {cs:Array Value} {fs:Array Field} (h:fn.results= #[.cell p ty,.tmp u,.tmp v]) (hd0:a.defers= []) (hp:a.tmps.getD p undef= .pointer (some ⟨g,0,none⟩))
  (hg:Holds w g t cs) (hu:Tryz.prog.underlying ty=some (.struct fs)) (hi:(Tryz.prog.info? ty).map (·.size)=some cs.size)
  (hR:R (.returned (.tuple #[.agg cs,a.tmps.getD u undef,a.tmps.getD v undef])) w):bodyPost Tryz.prog fn R .ret a w:=by
 refine bodyPost_ret_by (v:= .tuple #[.agg cs,a.tmps.getD u undef,a.tmps.getD v undef]) ?_ hd0 hR
 have hp':a.tmps[p]?.getD undef= .pointer (some ⟨g,0,none⟩):=by simpa[Array.getD_eq_getD_getElem?]using hp
 simp[results,h,hp',asAddr,run_loadVar_row w g t ty cs (0,0) _ hg hu rfl hi,Result.andThen,Array.getD_eq_getD_getElem?]
theorem Tryz.sFunc:(Tryz.prog.info? 26).map (·.size)=some 4:=by kernel_rfl
def zero4:Array Value:= #[.string ⟨#[]⟩,.slice none 0 0,.slice none 0 0,.slice none 0 0]
theorem Holds.put4 {w:World} {g:Nat} {t:TypeId} {a b c d:Value} (h:Holds w g t #[a,b,c,d]) (x y z u:Value):Holds ((((w.setCell ⟨g,0,none⟩ x).setCell ⟨g,1,none⟩ y).setCell ⟨g,2,none⟩ z).setCell ⟨g,3,none⟩ u) g t #[x,y,z,u]:=by
 have:=(((h.store 0 x).store 1 y).store 2 z).store 3 u;simpa using this
theorem put4_writes (w:World) (g:Nat) (x y z u:Value):Writes [some g] w ((((w.setCell ⟨g,0,none⟩ x).setCell ⟨g,1,none⟩ y).setCell ⟨g,2,none⟩ z).setCell ⟨g,3,none⟩ u):=
 (((Writes.store w (by simp) x).trans (Writes.store _ (by simp) y)).trans (Writes.store _ (by simp) z)).trans (Writes.store _ (by simp) u)
theorem FnAt.none_ (w:World) (S:Nat→Prop):FnAt w S Fnc.none (.slice none 0 0) (.slice none 0 0) (.slice none 0 0):=⟨by simp[Fnc.none],VrAt.nil_ _ _,VrAt.nil_ _ _,SlAt.nil_ _ _⟩
structure ParL (C:PC) (Z:PL) (gf B:Nat) (F:Nat→List Vr→PS→List Vr×PS) (R:List Vr×PS) (cs:Value→Array Value) (f:Nat) (l:List Vr) (s:PS) (v:Value) (w0 w:World):Prop where
 eq:F f l s=R
 fuel:s.e=0→C.tk.length<s.i+f∧l.length≤s.i
 len:l.length≤4999
 nms:∀x∈l,x.nm.length≤4096
 vf:VF C Z gf B s (cs v) w0 w
 own:w.ownsRow B 79 2 v l.length (l.flatMap Vr.cells)
theorem nameF_next {C:PC} {s:PS} (h:(nameF C s).2.e=0):s.i+1≤(nameF C s).2.i:=by
 unfold nameF at h⊢;split
 ·exact Nat.le_refl _
 ·rename_i hi;rw[if_neg hi]at h;exact absurd h (failF_e 51 (by decide) s)
theorem moreV_next {C:PC} {l:List Vr} {p:Bool} {m:Nat} {s:PS} (h:(moreV C l p m s).2.e=0):s.i+1≤(moreV C l p m s).2.i∧(moreV C l p m s).1.length=l.length+1:=by
 unfold moreV at h⊢;split
 ·rename_i hi;rw[if_pos hi]at h;exact absurd h (failF_e 53 (by decide) s)
 ·rename_i hi;rw[if_neg hi]at h;exact⟨nameF_next h,by simp⟩
theorem moreV_len {C:PC} {l:List Vr} {p:Bool} {m:Nat} {s:PS}:(moreV C l p m s).1.length≤l.length+1:=by
 unfold moreV;split
 ·simp
 ·simp
theorem VF.more {B2:Nat} {C:PC} {Z:PL} {gf B:Nat} {s s2:PS} {cs:Array Value} {w0 w w':World} {e:TypeId} {k n:Nat} {v:Value} {xs:List Value} (h:VF C Z gf B s cs w0 w) (h2:w.ownsRow B2 e k v n xs) (hB:B≤B2) (hP:PAt C Z s2 w') (hW:Writes [some Z.g,v.ownBlock] w w'):VF C Z gf B s2 cs w0 w':=by
 refine⟨hP,h.wr.then_ hW (fun k hk hm=> ?_),hW.holds h.hold ?_,h.lt,h.low,h.low0⟩
 ·simp only[List.mem_cons,List.not_mem_nil,or_false]at hm;rcases hm with hm|hm
  ·rw[hm];simp
  ·have:=ownK_ge h2 hm.symm;have:=h.low0;omega
 ·simp only[List.mem_cons,List.not_mem_nil,or_false,not_or];refine⟨by have:=h.lt;simp;omega,fun e=> ?_⟩;have:=ownK_ge h2 e.symm;have:=h.low;omega
def Mid (B B2:Nat) (x:Nat):Prop:=B≤x∧x<B2
theorem VrAt.more {B B2 g:Nat} {w w':World} {l:List Vr} {vp v:Value} {e:TypeId} {k n:Nat} {xs:List Value} (h:VrAt w (Mid B B2) l vp) (hg:g<B) (h2:w.ownsRow B2 e k v n xs) (hW:Writes [some g,v.ownBlock] w w'):VrAt w' (Mid B B2) l vp:=
 h.keep fun x hx hS=>hW.block x hx (fun e=>by
  simp only[List.mem_cons,List.not_mem_nil,or_false,Option.some.injEq]at e;rcases e with e|e
  ·subst e;exact absurd hS.1 (Nat.not_le_of_lt hg)
  ·have:=ownK_ge h2 e.symm
   exact absurd hS.2 (Nat.not_lt_of_le this))
theorem VrAt.pw {S:Nat→Prop} {g:Nat} {w w':World} {l:List Vr} {vp:Value} (h:VrAt w S l vp) (hW:Writes [some g] w w') (hg:¬S g):VrAt w' S l vp:=
 h.keep fun x hx hS=>hW.block x hx (fun e=>by simp at e;subst e;exact hg hS)
theorem Mid.not {B B2 g:Nat} (h:g<B):¬Mid B B2 g:=fun x=>absurd x.1 (Nat.not_le_of_lt h)
structure LocL (C:PC) (Z:PL) (gf B B2:Nat) (R:List Vr×PS) (nm:List UInt8) (P:List Vr) (vp:Value) (f:Nat) (l:List Vr) (s:PS) (v:Value) (w0 w:World):Prop where
 eq:localsL C f l s=R
 fuel:s.e=0→C.tk.length<s.i+f∧l.length≤s.i
 len:l.length≤4999
 nms:∀x∈l,x.nm.length≤4096
 vf:VF C Z gf B s #[.string (strV nm),vp,v,.slice none 0 0] w0 w
 own:w.ownsRow B2 79 2 v l.length (l.flatMap Vr.cells)
 par:VrAt w (Mid B B2) P vp
 lo:B≤B2
 hi:B2≤w.heap.size
theorem bodyAt_ok {C:PC} {s:PS} (hf:s.Few):(bodyAt C s).Few∧((bodyAt C s).e=0→(bodyAt C s).deep=s.deep+1):=by
 unfold bodyAt
 have key:∀t:PS,t.Few→(failF C 51 t).Few∧((failF C 51 t).e=0→(failF C 51 t).deep=s.deep+1):=fun t ht=>by have h1:=(Stp.fail (C:=C) 51 (by decide) t).nn ht;exact⟨h1,fun h=>absurd h (failF_e 51 (by decide) t)⟩
 by_cases h:(isF C [123] s&&(openF C s).1)=true
 ·rw[if_pos h];rw[Bool.and_eq_true]at h;have h2:=h.2;unfold openF at h2⊢;by_cases he:s.e=0
  ·rw[if_neg (by simpa using he)]at h2⊢;by_cases h4:40≤s.deep
   ·rw[if_pos h4]at h2;cases h2
   ·rw[if_neg h4];exact⟨hf,fun _=>rfl⟩
  ·rw[if_pos he]at h2;cases h2
 ·rw[if_neg h];refine key _ ?_;split
  ·unfold openF;split
   ·exact hf
   ·split
    ·exact(Stp.fail (C:=C) 52 (by decide) s).nn hf
    ·exact hf
  ·exact hf
theorem stmts_39 {C:PC} {Z:PL} (w:World) (s:PS) (hP:PAt C Z s w) (hd:s.e=0→1≤s.deep) (hf:s.Few):Calls Tryz.prog 36 #[.pointer (some ⟨Z.g,0,none⟩)] w (SlPost C Z (stmtsD C 39 s) w):=by
 by_cases he:s.e=0
 ·exact(stmts_all 39 (by decide)).2 C Z w s hP (by have:=hd he;omega) hf
 ·have h:=(stmts_all 40 (by decide)).2 C Z w s hP (Nat.zero_le _) hf
  have e:stmtsD C 40 s=stmtsD C 39 s:=by unfold stmtsD stmtsF stmtsL;rw[if_pos he,if_pos he]
  rw[←e];exact h
structure RetR (Z:PL) (s:PS) (wE wR:World) (l:Bool) (w:World):Prop where
 c3:w.cell? ⟨Z.g,3,none⟩=some (.int .i64 s.e)
 c4:w.cell? ⟨Z.g,4,none⟩=some (.int .i64 s.at_)
 lt:Z.g<w.heap.size
 a:l=false→w=wE
 b:l=true→w=wR
theorem VF.cells_ {C:PC} {Z:PL} {gf B:Nat} {s:PS} {cs:Array Value} {w0 w:World} (h:VF C Z gf B s cs w0 w):w.cell? ⟨Z.g,3,none⟩=some (.int .i64 s.e)∧w.cell? ⟨Z.g,4,none⟩=some (.int .i64 s.at_)∧Z.g<w.heap.size:=
 ⟨h.at_.facts.2.2.2.2.1,h.at_.facts.2.2.2.2.2.1,h.at_.lt⟩
theorem VF.drew_ {C:PC} {Z:PL} {gf B:Nat} {s:PS} {cs:Array Value} {w0 w:World} (h:VF C Z gf B s cs w0 w) (n:Nat):VF C Z gf B s cs w0 (w.drewN n):=h.call (Moved.drewN h.at_ n)
theorem VF.drew1 {C:PC} {Z:PL} {gf B:Nat} {s:PS} {cs:Array Value} {w0 w:World} (h:VF C Z gf B s cs w0 w):VF C Z gf B s cs w0 w.drew:=h.call ((Moved.refl h.at_).below (Below.refl _ w).drew)
theorem VF.ans {C:PC} {Z:PL} {gf B gr:Nat} {s:PS} {cs qs:Array Value} {t:TypeId} {w0 w:World} (h:VF C Z gf B s cs w0 w) (hr:Holds w0 gr t qs) (hlt:gr<Z.g):Holds w gr t qs:=
 h.wr.holds hr (by have:=h.lt;simp;omega)
theorem ans_cells {w:World} {gr:Nat} {t:TypeId} (h:Holds w gr t zero4):w.cell? ⟨gr,0,none⟩=some (.string ⟨#[]⟩)∧w.cell? ⟨gr,1,none⟩=some (.slice none 0 0)∧w.cell? ⟨gr,2,none⟩=some (.slice none 0 0)∧w.cell? ⟨gr,3,none⟩=some (.slice none 0 0)∧gr<w.heap.size∧∀i,w.frozen? ⟨gr,i,none⟩=false:=
 ⟨h.cell 0,h.cell 1,h.cell 2,h.cell 3,h.lt,fun i=>h.frozen i⟩
theorem put4_cell {w:World} {g:Nat} {x y z u:Value} {p:Addr} (h:p.block≠g):((((w.setCell ⟨g,0,none⟩ x).setCell ⟨g,1,none⟩ y).setCell ⟨g,2,none⟩ z).setCell ⟨g,3,none⟩ u).cell? p=w.cell? p:=by
 have hb:=fun(v:World) (i:Nat) (a:Value)=>World.cell?_of_block (Below.heap_setCell v ⟨g,i,none⟩ a p.block (by simpa using h));rw[hb,hb,hb,hb]
theorem put4_size (w:World) (g:Nat) (x y z u:Value):((((w.setCell ⟨g,0,none⟩ x).setCell ⟨g,1,none⟩ y).setCell ⟨g,2,none⟩ z).setCell ⟨g,3,none⟩ u).heap.size=w.heap.size:=by simp
theorem func_any (w:World) (s:ByteArray) (hs:s.size≤maxLen):Calls Tryz.prog 9 #[.string s] w (FnPost (funcF s.data.toList) w):=by
 obtain⟨R,hR⟩:∃x,x=funcF s.data.toList:=⟨_,rfl⟩;rw[←hR];obtain⟨lx,hlx⟩:∃x,x=lexF s.data.toList:=⟨_,rfl⟩;have htk:=fun w=>tokens_any w s hs;rw[←hlx]at htk;replace htk:=zi htk;have hs':=hs;unfold maxLen at hs';obtain⟨wr,hwr⟩:∃x,x=w.alloc (.cells zero4 26):=⟨_,rfl⟩;obtain⟨gr,hgr⟩:∃x,x=w.heap.size:=⟨_,rfl⟩
 have hHr:Holds wr gr 26 zero4:=by rw[hwr,hgr];exact Holds.new w _ _
 have hb0:Below w.heap.size w wr:=by rw[hwr];exact below_new w _
 have hszr:wr.heap.size=w.heap.size+1:=by rw[hwr];simp
 unfold zero4 at hwr;replace hR:=zi hR;replace hlx:=zi hlx;go_enter Tryz.func9,Tryz.ntmps9;go_wp2_with fail;rw[←hwr,←hgr];clear hwr;replace hHr:=zi hHr;replace hb0:=zi hb0;refine(htk.out wr).mono ?_;clear htk;rintro e w1 ⟨A,c,rfl,hrow,hlc,hb1⟩
 have hgrw:gr<wr.heap.size:=by omega
 have hgw:w.heap.size≤gr:=by omega
 have hHr1:=hHr.out.below hb1 hgrw;have hB1:=hb0.out.trans (hb1.mono (by omega));replace hgr:=zi hgr;replace hszr:=zi hszr;clear hHr hb0 hb1;by_cases he:lx.2.2=0
 case neg=>
  have he':((lx.2.2:Int) !=0)=true:=by simp;omega
  have hF:Hid (R=(Fnc.none,lx.2.1,lx.2.2)):=zi (by rw[hR.out];unfold funcF;rw[←hlx.out,if_pos he]);have g0:=hHr1.lt;have gz:=fun i=>hHr1.frozen i;have k0:w1.cell? ⟨gr,0,none⟩=some (.string ⟨#[]⟩):=hHr1.cell 0;have k1:w1.cell? ⟨gr,1,none⟩=some (.slice none 0 0):=hHr1.cell 1;have k2:w1.cell? ⟨gr,2,none⟩=some (.slice none 0 0):=hHr1.cell 2;have k3:w1.cell? ⟨gr,3,none⟩=some (.slice none 0 0):=hHr1.cell 3;replace hHr1:=zi hHr1;replace hB1:=zi hB1;replace hrow:=zi hrow;clear he hR hlx;go_wp2_with fail;refine ret_cell3 rfl rfl rfl (hHr1.out.put4 _ _ _ _) Tryz.underlying26 Tryz.sFunc ?_;rw[hF.out];refine⟨_,_,_,rfl,FnAt.none_ _ _,hB1.out.trans ((put4_writes w1 gr _ _ _ _).below hB1.out.size (fun k hk=>by simp at hk;omega))⟩
 case pos=>
  have he':((lx.2.2:Int) !=0)=false:=by simp;omega
  obtain⟨C,hC⟩:∃C:PC,C=⟨lx.1,s.data.toList.length⟩:=⟨_,rfl⟩;obtain⟨g,hg⟩:∃x,x=w1.heap.size:=⟨_,rfl⟩;obtain⟨Z,hZ⟩:∃Z:PL,Z=⟨g,A,c⟩:=⟨_,rfl⟩;obtain⟨s0,hs0⟩:∃x:PS,x=⟨0,0,0,0,0⟩:=⟨_,rfl⟩;obtain⟨w2,hw2⟩:∃x,x=w1.alloc (.cells (s0.cells C Z) 70):=⟨_,rfl⟩;obtain⟨w3,hw3⟩:∃x,x=w2.alloc (.cells zero4 26):=⟨_,rfl⟩;obtain⟨gf,hgf⟩:∃x,x=w2.heap.size:=⟨_,rfl⟩;obtain⟨B,hB⟩:∃x,x=w3.heap.size:=⟨_,rfl⟩
  have hz2:w2.heap.size=w1.heap.size+1:=by rw[hw2];simp
  have hz3:w3.heap.size=w2.heap.size+1:=by rw[hw3];simp
  have hb2:Below w1.heap.size w1 w2:=by rw[hw2];exact below_new w1 _
  have hb3:Below w2.heap.size w2 w3:=by rw[hw3];exact below_new w2 _
  have hfit:C.Fit:=by rw[hC,hlx.out];exact lexF_fit _ (by rw[←hlx.out];exact he)
  have hP2:PAt C Z s0 w2:=⟨hfit,by rw[hs0];exact⟨by simp,by simp,by simp,by simp,by simp⟩,by have:=Holds.new w1 70 (s0.cells C Z);rw[←hw2]at this;rw[show Z.g=w1.heap.size by rw[hZ];exact hg];exact this,by rw[show Z.g=w1.heap.size by rw[hZ];exact hg,show Z.A=A by rw[hZ],show C.tk=lx.1 by rw[hC]];exact hrow.keep fun p hp=>hb2.cell hp⟩;have hVF:Hid (VF C Z gf B s0 zero4 w3 w3):=zi ⟨hP2.up hb3,Writes.refl _ _,by rw[hgf,hw3];exact Holds.new w2 _ _,by rw[hZ];simp only;omega,by omega,hB.symm⟩;have hHr3:Hid (Holds w3 gr 26 zero4):=zi ((hHr1.below hb2 hHr1.lt).below hb3 (by have:=hHr1.lt;omega));have hB3:Hid (Below w.heap.size w w3):=zi (hB1.trans ((hb2.trans (hb3.mono hb2.size)).mono hB1.size));have hR2:Hid (R=funcP C):=zi (by rw[hR.out];unfold funcF;rw[←hlx.out,if_neg (by omega),hC])
  have hgr3:gr<g:=by have:=hHr1.lt;omega
  have hZg:Hid (Z.g=g):=zi (by rw[hZ]);have hgfe:Hid (gf=g+1):=zi (by omega);have hcl:Hid (C.tk.length=lx.1.length∧C.end_=s.size):=zi (by rw[hC];exact⟨rfl,rfl⟩)
  have hw3e:Hid ((w1.alloc (.cells #[.slice A lx.1.length c,.int .i64 0,.int .i64 s.size,.int .i64 0,.int .i64 0,.int .i64 0,.int .i64 0] 70)).alloc (.cells #[.string ⟨#[]⟩,.slice none 0 0,.slice none 0 0,.slice none 0 0] 26)=w3):=zi (by
   rw[hw3,hw2,hs0,hZ,hC]
   rfl)
  obtain⟨s1,hs1⟩:∃y,y=wantF C [102,110] s0:=⟨_,rfl⟩;obtain⟨nm,hnm⟩:∃y,y=(nameF C s1).1:=⟨_,rfl⟩;obtain⟨s2,hs2⟩:∃y,y=(nameF C s1).2:=⟨_,rfl⟩;have hnf:Hid (nameF C s1=(nm,s2)):=zi (by rw[hnm,hs2]);obtain⟨s3,hs3⟩:∃y,y=wantF C [40] s2:=⟨_,rfl⟩;have hhead:Hid (headF C=(nm,s2)):=zi (by rw[hnm,hs2,hs1,hs0];rfl);have hstp:Hid (Stp C s0 s3):=zi (by rw[hs3,hs2,hs1];exact((Stp.want _ _).trans (Stp.name _)).trans (Stp.want _ _));have hs00:Hid (s0=⟨0,0,0,0,0⟩):=zi hs0;replace hs1:=zi hs1;replace hs3:=zi hs3;replace hgr:=hgr;clear hnm hs2 hs0 hw3 hw2 hz2 hz3 hb2 hb3 hC hP2 hHr1 hB1 hrow hfit he hlx;have hgB:gf<B:=hVF.out.low;have hzB:Z.g<B:=hVF.out.lt2;have hBw:B=w3.heap.size:=hB;replace hBw:=zi hBw;replace hB:=zi hB;replace hZ:=zi hZ;have hg1:=hg
  have hgf1:w1.heap.size+1=gf:=by have:=hgfe.out;omega
  have hg2:w1.heap.size=Z.g:=by rw[hZg.out];exact hg.symm
  replace hg1:=zi hg1;clear hgf hg;replace hgf1:=zi hgf1;replace hg2:=zi hg2;go_upto_region 6 with(fail);rw[hgf1.out,hg2.out,hw3e.out];clear hgf1 hg2 hw3e;obtain⟨w0,hw0⟩:∃x,x=w3:=⟨_,rfl⟩;replace hw0:=zi hw0;go_wp2_with fail;refine(want_from hVF.out.mv [102,110] hs1.out.symm).mono ?_;rintro e w4 ⟨rfl,q4,-⟩;have V4:=zi (hVF.out.call q4);clear q4;go_wp2_with fail;refine(name_from V4.out.mv hnf.out).mono ?_;rintro e w5 ⟨rfl,q5,hnl,-⟩;have V5:=V4.out.call q5;obtain⟨fl,fz⟩:=V5.facts;have f0:=V5.fact 0 rfl;have V6:VF C Z gf B s2 #[.string (strV nm),.slice none 0 0,.slice none 0 0,.slice none 0 0] w3 (w5.setCell ⟨gf,0,none⟩ (.string (strV nm))):=V5.store 0 (.string (strV nm));obtain⟨w6,hw6⟩:∃x,x=w5.setCell ⟨gf,0,none⟩ (.string (strV nm)):=⟨_,rfl⟩;rw[←hw6]at V6;replace V6:=zi V6;clear q5 V5 V4;go_wp2_with fail;rw[←hw6];clear hw6 fl fz f0;refine(want_from V6.out.mv [40] hs3.out.symm).mono ?_;rintro e w7 ⟨rfl,q7,-⟩;have V7:=zi (V6.out.call q7);clear q7 V6;obtain⟨R1,hR1⟩:∃y,y=psF C:=⟨_,rfl⟩;have hR1e:Hid (paramsF C s3=R1):=zi (by rw[hR1,hs3.out];unfold psF;rw[hhead.out])
  replace hR1:=zi hR1;obtain⟨b,hb⟩:∃y,y=(takeF C [41] s3).1:=⟨_,rfl⟩;obtain⟨s4,hs4⟩:∃y,y=(takeF C [41] s3).2:=⟨_,rfl⟩;have htk4:Hid (takeF C [41] s3=(b,s4)):=zi (by rw[hb,hs4])
  have hbF:Hid (b=isF C [41] s3∧(b=true→s4=s3.next)∧(b=false→s4=s3)):=zi (by
   rw[hb,hs4];unfold takeF
   cases isF C [41] s3<;>simp)
  clear hb hs4;go_wp2_with fail;refine(take_both V7.out.mv htk4.out).mono ?_;rintro e w8 ⟨rfl,q8,-⟩;have V8:=zi (V7.out.call q8);clear q8 V7
  go_upto_if 36 with(fail)
  go_cut [] (fun wc=>Hid (∃vp,VF C Z gf B R1.2 #[.string (strV nm),vp,.slice none 0 0,.slice none 0 0] w3 wc∧wc.ownsRow B 79 2 vp R1.1.length (R1.1.flatMap Vr.cells)∧R1.1.length≤5000∧∀x∈R1.1,x.nm.length≤4096))
  case first=>
   cases b with
   |true=>
    have hF:Hid (R1=([],s4)):=zi (by rw[←hR1e.out,hbF.out.2.1 rfl];unfold paramsF;rw[←hbF.out.1];rfl);go_wp2_with fail
    go_meet
    case rel=>
     rw[hF.out];exact zi ⟨_,V8.out,⟨rfl,.inl ⟨rfl,rfl⟩⟩,by simp,by simp⟩
   |false=>
    have hF:Hid (paramsL C (C.tk.length+1) [] s4=R1):=zi (by rw[←hR1e.out,hbF.out.2.2 rfl];unfold paramsF;rw[←hbF.out.1];rfl);have hlen:=V8.out.at_.fit.len
    have hL1:Hid (ParL C Z gf B (paramsL C) R1 (fun v=> #[.string (strV nm),v,.slice none 0 0,.slice none 0 0]) (C.tk.length+1) [] s4 (.slice none 0 0) w3 w8):=
     zi ⟨hF.out,fun _=>⟨by omega,by simp⟩,by simp,by simp,V8.out,⟨rfl,.inl ⟨rfl,rfl⟩⟩⟩
    clear hF;go_wp2_with fail;go_loopw [] (fun wr=>∃(f:Nat) (ps:List Vr) (st:PS) (vp:Value),Hid (ParL C Z gf B (paramsL C) R1 (fun v=> #[.string (strV nm),v,.slice none 0 0,.slice none 0 0]) f ps st vp w3 wr)) (fun wr=>left2 Z wr)
    case atStart=>exact⟨_,_,_,_,hL1⟩
    clear hL1;obtain⟨f,ps,st,vp,hL⟩:=hrel;rename World=>wl;have hV:=hL.out.vf;obtain⟨a0,d0,d1,d2,d3,d4,d5,d6,dfz⟩:=hV.mv.facts;obtain⟨b1,b2,b3,b4,b5,b6,b7⟩:=hV.at_.bounds;replace hV:=zi hV;by_cases he:st.e=0
    case neg=>
     have he':((st.e:Int)==0)=false:=by simp;omega
     have hF:Hid (R1=(ps,st)):=zi (by
      rw[←hL.out.eq]
      cases f with
      |zero=>rfl
      |succ f=>unfold paramsL;rw[if_pos he])
     go_wp2_with fail
     go_meet
     case rel=>
      rw[hF.out];exact zi ⟨_,hL.out.vf,hL.out.own,by have:=hL.out.len;simp only;omega,hL.out.nms⟩
    have he':((st.e:Int)==0)=true:=by simp;omega
    have hfu:=hL.out.fuel he;obtain⟨f',hff⟩:∃f',f=f'+1:=⟨f-1,by omega⟩;obtain⟨tk,htk0⟩:∃y,y=(takeF C [42] st).1:=⟨_,rfl⟩;obtain⟨s1',hs1'⟩:∃y,y=(takeF C [42] st).2:=⟨_,rfl⟩
    have hst1:Stp C st s1':=by rw[hs1'];exact Stp.take_ _ _
    have htk:Hid (takeF C [42] st=(tk,s1')):=zi (by rw[htk0,hs1']);obtain⟨r,hr⟩:∃y,y=moreV C ps tk 6 s1':=⟨_,rfl⟩;have hst2:Hid (Stp C st r.2):=zi (by rw[hr];exact hst1.trans (moreV_stp _ _ _ _));have hnx:Hid (r.2.e=0→s1'.i+1≤r.2.i∧r.1.length=ps.length+1):=zi (fun h=>by rw[hr]at h⊢;exact moreV_next h)
    have hrl:r.1.length≤ps.length+1:=by rw[hr];exact moreV_len
    have hRR:Hid (R1=if isF C [41] r.2 then(r.1,r.2.next)else paramsL C f' r.1 (wantF C [44] r.2)):=zi (by
     rw[←hL.out.eq,hff,hr,htk0,hs1']
     conv=>lhs;unfold paramsL
     rw[if_neg (by omega)])
    have hi1:=hst1.i1;have he0:=zi he;have hff':=zi hff;replace hr:=zi hr;clear htk0 hs1' hst1 he hff;go_wp2_with fail;have hbd:=Below.refl wl.heap.size wl;have hgo:Hid (MReg C Z gf B st s1' nm vp ps (moreV C ps tk 6 s1') w3 false false false wl.drew):=zi ⟨fun h=>(by cases h),fun h=>(by cases h),fun _=>⟨hV.out.call ((hV.out.mv).below hbd.drew),own_below hL.out.own hbd.drew⟩,fun h=>(by cases h),fun h=>(by cases h)⟩;have hps:Hid (ps.length≤5000):=zi (by have:=hL.out.len;omega);have hpn:=zi hL.out.nms;clear hbd a0 d0 d1 d2 d3 d4 d5 d6 dfz;refine wp_region_tabL ((eqv (.pointer (some ⟨Z.g,0,none⟩)))::(eqv (.pointer (some ⟨gf,1,none⟩)))::(eqv vp)::(eqv (.pointer (some ⟨Z.g,0,none⟩)))::(eqv (.bool tk))::(fun L w v=>L 5=true→L 7=false→MoreAt C Z gf B nm vp (moreV C ps tk 6 s1') w3 w v)::(eqv (.pointer (some ⟨gf,1,none⟩)))::(fun _ _ _=>True)::[])
     (⟨[(8,none)],0,[5,7]⟩::⟨[(9,none)],0,[5,7]⟩::⟨[(43,some 1)],0,[5,7]⟩::⟨[(8,none)],0,[5,7]⟩::⟨[(45,some 3)],0,[5,7]⟩::⟨[(42,some 0),(44,some 2),(46,some 4)],0,[7]⟩::⟨[(9,none)],0,[7]⟩::⟨[(48,some 6),(47,some 5)],0,[]⟩::[])
     (no::no::no::no::no::no::no::no::no::no::no::no::no::no::no::no::no::no::no::no::no::no::no::no::no::no::no::no::no::no::no::no::no::no::no::no::no::no::no::no::no::no::some 0::some 1::some 2::some 3::some 4::some 5::some 6::[])
     (fun L w'=>MReg C Z gf B st s1' nm vp ps (moreV C ps tk 6 s1') w3 (L 4) (L 5) (L 7) w') (fun i w w'=>i≠4→i≠5→i≠7→w'=w) ?mixK11 ?okK11 ?tabK11 ?frK11 ?inK11 ?keptK11 ?startK11 ?eachK11 ?finK11
    case mixK11|okK11|tabK11|frK11=>kernel_rfl
    case inK11=>rfl
    case keptK11=>exact⟨fun _ _ _ _ _ _ _ _ _ _ _ h=>h,fun _ _ _ _ _ _ _ _ _ _ _ h=>h,fun _ _ _ _ _ _ _ _ _ _ _ h=>h,fun _ _ _ _ _ _ _ _ _ _ _ h=>h,fun _ _ _ _ _ _ _ _ _ _ _ h=>h,fun i hne hr L w w' v hLi hC hC' hG h h1 h2=>by
       have n5:(5==i)=false:=by simpa using fun e=>hne e.symm
       have a1:L 5=true:=by simpa[n5]using h1
       have n7:i≠7:=fun e=>by subst e;simp at h2
       have n7':(7==i)=false:=by simpa using fun e=>n7 e.symm
       have a2:L 7=false:=by simpa[n7']using h2
       have n4:i≠4:=fun e=>by subst e;exact absurd (hC.o2 a1) (by rw[hLi];simp)
       rw[hG n4 (fun e=>hne e) n7]
       exact h a1 a2,fun _ _ _ _ _ _ _ _ _ _ _ h=>h,fun _ _ _ _ _ _ _ _ _ _ _ h=>h,trivial⟩
    case startK11=>exact hgo.out
    case eachK11=>
     repeat' first|exact trivial|refine And.intro ?_ ?_
     ·intro w L f hC hLi hLd hLn ⟨d,_⟩;refine Step2.live rfl ?_;exact relUpon_value (v:=f 8) rfl (hC) (fun _ _ _=>rfl) d
     ·intro w L f hC hLi hLd hLn ⟨a,_⟩;change _=_ at a;refine Step2.live rfl ?_;obtain⟨ev,ec,ef⟩:=evs f;refine relUpon_value ?_ hC (fun _ _ _=>rfl) rfl;go_simp
     ·intro w L f hC hLi hLd hLn ⟨a,_⟩;change _=_ at a;refine Step2.live rfl ?_;have hcell:w.cell? ⟨gf,1,none⟩=some vp:=hC.cell (hLn 5 (by simp));obtain⟨ev,ec,ef⟩:=evs f;refine relUpon_value ?_ hC (fun _ _ _=>rfl) rfl;go_simp
     ·intro w L f hC hLi hLd hLn ⟨d,_⟩;refine Step2.live rfl ?_;exact relUpon_value (v:=f 8) rfl (hC) (fun _ _ _=>rfl) d
     ·intro w L f hC hLi hLd hLn ⟨a,_⟩;change _=_ at a;refine Step2.live rfl ?_;have l5:L 5=false:=hLn 5 (by simp);have hp:=hC.a hLi;obtain⟨ev,ec,ef⟩:=evs f;refine relUpon_call (f:=31) (args:= #[.pointer (some ⟨Z.g,0,none⟩),.string ⟨#[42]⟩]) (w:=w) (by go_simp) (take_both hp.1.mv htk.out) ?_;rintro e w1 ⟨he,h1,hW⟩;exact⟨_,he,⟨fun h=>absurd h (by simp[hLn 7 (by simp)]),fun h=>absurd h (by simp[l5]),fun h=>absurd h (by simp),fun _ _=>⟨hp.1.call h1,own_pw hp.2 hW hp.1.lt2⟩,fun h=>absurd h (by simp[hLn 7 (by simp)])⟩,fun h=>absurd rfl h,rfl⟩
     ·intro w L f hC hLi hLd hLn ⟨a,b,c,_⟩;change _=_ at a b c;refine Step2.live rfl ?_;have l4:L 4=true:=hLd 4 (by decide);have hp:=hC.b l4 hLi;obtain⟨ev,ec,ef⟩:=evs f;refine relUpon_call (f:=32) (args:= #[.pointer (some ⟨Z.g,0,none⟩),vp,.bool tk,.int .i64 6]) (w:=w) (by go_simp) (more_any w s1' hp.1.at_ B hp.1.ltB hp.1.szB vp ps hp.2 hps.out hpn.out tk 6) ?_;rintro e w1 ⟨v',he,hP,hW,hO,hN⟩;exact⟨_,he,⟨fun h=>absurd h (by simp[hLn 7 (by simp)]),fun _=>by simp[l4],fun h=>absurd h (by simp[l4]),fun _ h=>absurd h (by simp),fun h=>absurd h (by simp[hLn 7 (by simp)])⟩,fun _ h=>absurd rfl h,fun _ _=>MoreAt.of hp.1 hp.2 hP hW hO hN⟩
     ·intro w L f hC hLi hLd hLn ⟨a,_⟩;change _=_ at a;refine Step2.live rfl ?_;obtain⟨ev,ec,ef⟩:=evs f;refine relUpon_value ?_ hC (fun _ _ _=>rfl) rfl;go_simp
     ·intro w L f hC hLi hLd hLn ⟨a,d47,_⟩;change _=_ at a;refine Step2.live rfl ?_;have l5:L 5=true:=hLd 5 (by decide);have l4:=hC.o2 l5;have hm:=d47 l5 hLi;obtain⟨vA,vn,vc,hsh⟩:=hm.shape;rw[hsh]at hm;have hcell:=hm.cell;have hlt:=hm.lt;have hfz:=hm.frozen;obtain⟨ev,ec,ef⟩:=evs f;refine relUpon_skip (w':=w.setCell ⟨gf,1,none⟩ (.slice vA vn vc)) ?_ ⟨fun _=>by simp[l5],fun _=>by simp[l4],fun h=>absurd h (by simp[l4]),fun _ h=>absurd h (by simp[l5]),fun _=>⟨_,hm.done⟩⟩ (fun _ _ h=>absurd rfl h) trivial;go_simp
    intro x w' hC hV
    obtain⟨v9,hd⟩:=hC.c rfl;rw[←hr.out]at hd;clear hV hC;simp only[framed];obtain⟨w9,hw9⟩:∃y,y=w':=⟨_,rfl⟩;rw[←hw9]at hd⊢;clear hw9;have V9:=zi hd.1;have hO9:=zi hd.2.1;have hN9:=zi hd.2.2;clear hd
    cases h41:isF C [41] r.2 with
    |true=>
     have hF:Hid (R1=(r.1,r.2.next)):=zi (by rw[hRR.out,if_pos h41]);replace h41:=zi h41;go_wp2_with fail;refine(take_yes V9.out.mv [41] h41.out rfl).mono ?_;rintro e w10 ⟨rfl,q10,hW10⟩;have V10:=zi (V9.out.call q10);have hO10:=zi (own_pw hO9.out hW10 hzB);clear q10 hW10;go_wp2_with fail
     go_meet
     case rel=>
      rw[hF.out];exact zi ⟨_,V10.out,hO10.out,by have:=hps.out;simp only;omega,hN9.out⟩
    |false=>
     have hF:Hid (paramsL C f' r.1 (wantF C [44] r.2)=R1):=zi (by rw[hRR.out,if_neg (by rw[h41];simp)]);replace h41:=zi h41;go_wp2_with fail;refine(take_no V9.out.mv [41] h41.out).mono ?_;rintro e w10 ⟨rfl,q10,hW10⟩;have V10:=zi (V9.out.call q10);have hO10:=zi (own_pw hO9.out hW10 hzB);clear q10 hW10;go_wp2_with fail;refine(want_from V10.out.mv [44] rfl).mono ?_;rintro e w11 ⟨rfl,q11,hW11⟩;have V11:=V10.out.call q11;have hO11:=own_pw hO10.out hW11 hzB;have hwn:=fun h=>want_next (C:=C) (t:= [44]) (s:=r.2) h;have hwi:=(Stp.want (C:=C) [44] r.2).i1;have hwe:=(Stp.want (C:=C) [44] r.2).er;have h2i:=hst2.out.i1;have hlp:=hL.out.len
     have hL2:Hid (ParL C Z gf B (paramsL C) R1 (fun v=> #[.string (strV nm),v,.slice none 0 0,.slice none 0 0]) f' r.1 (wantF C [44] r.2) v9 w3 w11):=
      zi ⟨hF.out,fun h=>by
       have h1:=hwn h
       have h2:r.2.e=0:=by
        by_cases h3:r.2.e=0
        ·exact h3
        ·exact absurd h (hwe h3)
       have h4:=hnx.out h2;have h5:=hff'.out;have h6:=hfu
       omega,by
       have h6:=hfu.2;have h7:r.1.length≤ps.length+1:=hrl;have h8:st.i≤C.tk.length:=hL.out.vf.at_.bounds.2.2.1;have h9:C.tk.length≤4096:=V11.at_.bounds.1
       omega,hN9.out,V11,hO11⟩
     have hm1:=zi (hL.out.vf.mv.left2);have hm2:=zi (V11.mv.left2);have hb11:=V11.at_.bounds.2.2.1;have hless:=zi (left2_less he0.out (Nat.le_trans hb11 b1) (by omega:st.i≤(wantF C [44] r.2).i) (fun h=>by have:=hwn h;omega));clear hwn hwi hwe h2i hW11 q11 V11 hO11 hb11;go_wp2_with fail;exact⟨⟨_,_,_,_,hL2⟩,by rw[hm1.out,hm2.out];exact hless.out⟩
  case rest=>
   obtain⟨vp,V1,hO1,hl1,hn1⟩:=hcut.out;obtain⟨s5,hs5⟩:∃y,y=R1.2:=⟨_,rfl⟩;obtain⟨s6,hs6⟩:∃y,y=bodyAt C s5:=⟨_,rfl⟩;rw[←hs5]at V1;replace V1:=zi V1;replace hO1:=zi hO1;replace hn1:=zi hn1;replace hs5:=zi hs5;clear hcut;obtain⟨bi,hbi⟩:∃y,y=isF C [123] s5:=⟨_,rfl⟩;obtain⟨bo,hbo⟩:∃y,y=(openF C s5).1:=⟨_,rfl⟩;obtain⟨so,hso⟩:∃y,y=(openF C s5).2:=⟨_,rfl⟩
   obtain⟨sx,hsx⟩:∃y,y=if bi then so else s5:=⟨_,rfl⟩
   have hopn:Hid (openF C s5=(bo,so)):=zi (by rw[hbo,hso]);have hbody:Hid (s6=if (bi&&bo)=true then so.next else failF C 51 sx):=zi (by rw[hs6,hsx,hso,hbo,hbi];rfl);have hlen5:=V1.out.at_.bounds.2.2.1
   have hlt5:Hid (bi=true→so.i<C.tk.length):=zi (fun h=>by
    have h1:=isF_lt (hbi.symm.trans h);rw[hso]
    have:(openF C s5).2.i=s5.i:=by
     unfold openF;split
     ·rfl
     ·split
      ·unfold failF;split<;>rfl
      ·rfl
    omega)
   replace hbi:=zi hbi;replace hsx:=zi hsx;replace hs6:=zi hs6;clear hbo hso hlen5;go_upto_region 14 with(fail);go_cut [58] (fun u58 wd=>Hid (u58= .bool (bi&&bo)∧VF C Z gf B sx #[.string (strV nm),vp,.slice none 0 0,.slice none 0 0] w3 wd∧wd.ownsRow B 79 2 vp R1.1.length (R1.1.flatMap Vr.cells)))
   case first=>
    cases hb1:bi with
    |false=>
     rw[hb1]at hsx hbi;have hse:Hid (sx=s5):=zi (by rw[hsx.out];rfl);go_wp2_with fail;refine(is_from V1.out.mv [123] hbi.out.symm).mono ?_;rintro e wd ⟨rfl,q,hW⟩;have V2:=zi (V1.out.call q);have hO2:=zi (own_pw hO1.out hW hzB);clear q hW;go_wp2_with fail
     go_meet
     case rel=>exact zi ⟨by rw[hb1];rfl,by rw[hse.out];exact V2.out,hO2.out⟩
    |true=>
     rw[hb1]at hsx hbi;have hse:Hid (sx=so):=zi (by rw[hsx.out];rfl);go_wp2_with fail;refine(is_from V1.out.mv [123] hbi.out.symm).mono ?_;rintro e wd ⟨rfl,q,hW⟩;have V2:=zi (V1.out.call q);have hO2:=zi (own_pw hO1.out hW hzB);clear q hW;go_wp2_with fail;refine(open_from V2.out.mv hopn.out).mono ?_;rintro e wd ⟨rfl,q,hW⟩;have V3:=zi (V2.out.call q);have hO3:=zi (own_pw hO2.out hW hzB);clear q hW;go_wp2_with fail
     go_meet
     case rel=>exact zi ⟨by rw[hb1];rfl,by rw[hse.out];exact V3.out,hO3.out⟩
   case rest=>
    obtain⟨e58,V4,hO4⟩:=hcut.out;replace V4:=zi V4;replace hO4:=zi hO4;clear hcut;subst e58;clear V1 hO1
    go_upto_if 58 with(fail)
    go_cut [] (fun wd=>Hid (VF C Z gf B s6 #[.string (strV nm),vp,.slice none 0 0,.slice none 0 0] w3 wd∧wd.ownsRow B 79 2 vp R1.1.length (R1.1.flatMap Vr.cells)))
    case first=>
     cases hbb:(bi&&bo)with
     |true=>
      have hF:Hid (s6=so.next):=zi (by rw[hbody.out,if_pos hbb]);have hsxo:Hid (sx=so):=zi (by rw[hsx.out,if_pos (by rw[Bool.and_eq_true]at hbb;exact hbb.1)]);have hlt:=hlt5.out (by rw[Bool.and_eq_true]at hbb;exact hbb.1);have V5:=V4.out;rw[hsxo.out]at V5;obtain⟨a0,d0,d1,d2,d3,d4,d5,d6,dfz⟩:=V5.mv.facts;obtain⟨b1,b2,b3,b4,b5,b6,b7⟩:=V5.mv.bounds;have q6:=V5.mv.next hlt;have V6:=V5.call q6;have hO6:=zi (own_pw hO4.out q6.wr hzB);replace V6:=zi V6;replace hbb:=zi hbb;clear q6 V5;go_wp2_with fail
      go_meet
      case rel=>exact zi ⟨by rw[hF.out];exact V6.out,hO6.out⟩
     |false=>
      have hF:Hid (failF C 51 sx=s6):=zi (by rw[hbody.out,if_neg (by rw[hbb];simp)]);replace hbb:=zi hbb;go_wp2_with fail;refine(fail_from V4.out.mv 51 (by decide) hF.out).mono ?_;rintro e wd ⟨rfl,q,hW⟩;have V5:=zi (V4.out.call q);have hO5:=zi (own_pw hO4.out hW hzB);clear q hW;go_wp2_with fail
      go_meet
      case rel=>exact zi ⟨V5.out,hO5.out⟩
    case rest=>
     obtain⟨V5,hO5⟩:=hcut.out;clear hcut V4 hO4;rename World=>wL;obtain⟨B2,hB2⟩:∃y,y=wL.heap.size:=⟨_,rfl⟩;obtain⟨R2,hR2e⟩:∃y,y=localsL C (C.tk.length+1) [] s6:=⟨_,rfl⟩
     have hBB2:B≤B2:=by rw[hB2];exact V5.szB
     have hzB2:Z.g<B2:=by omega
     have hgB2:gf<B2:=by omega
     have hP5:VrAt wL (Mid B B2) R1.1 vp:=by have h1:=VrAt.own hO5 (by omega) hn1.out;exact h1.mono fun x hx hS=>⟨hS,by rw[hB2];exact hx⟩
     have hlen:=V5.at_.fit.len
     have hL1:Hid (LocL C Z gf B B2 R2 nm R1.1 vp (C.tk.length+1) [] s6 (.slice none 0 0) w3 wL):=
      zi ⟨hR2e.symm,fun _=>⟨by omega,by simp⟩,by simp,by simp,V5,⟨rfl,.inl ⟨rfl,rfl⟩⟩,hP5,hBB2,by omega⟩
     replace hB2:=zi hB2;replace hR2e:=zi hR2e;clear hlen hP5 V5 hO5;go_wp2_with fail;go_loopw [] (fun wr=>∃(f:Nat) (ls:List Vr) (st:PS) (vl:Value),Hid (LocL C Z gf B B2 R2 nm R1.1 vp f ls st vl w3 wr)) (fun wr=>left2 Z wr)
     case atStart=>exact⟨_,_,_,_,hL1⟩
     clear hL1;obtain⟨f,ls,st,vl,hL⟩:=hrel;rename World=>wl;have hV:=zi hL.out.vf;obtain⟨b1,b2,b3,b4,b5,b6,b7⟩:=hL.out.vf.at_.bounds;obtain⟨pv,hpv⟩:∃y,y=isF C [118,97,114] st:=⟨_,rfl⟩;obtain⟨pt,hpt⟩:∃y,y=isF C [112,116,114] st:=⟨_,rfl⟩;replace hpv:=zi hpv.symm;replace hpt:=zi hpt.symm
     have hexit:Hid (pv=false→pt=false→R2=(ls,st)):=zi (fun h1 h2=>by
      rw[←hL.out.eq]
      cases f with
      |zero=>rfl
      |succ f=>unfold localsL;rw[if_neg (by rw[hpv.out,hpt.out,h1,h2];simp)])
     have hstep:Hid ((pv||pt)=true→st.e=0∧st.i<C.tk.length∧∃f',f=f'+1∧R2=localsL C f' (moreV C ls pt 20 st.next).1 (wantF C [59] (moreV C ls pt 20 st.next).2)):=zi (fun h=>by
      have he:st.e=0:=by
       rw[Bool.or_eq_true]at h;rcases h with h|h
       ·exact isF_e (hpv.out.trans h)
       ·exact isF_e (hpt.out.trans h)
      have hfu:=hL.out.fuel he;refine⟨he,?_,f-1,by omega,?_⟩
      ·rw[Bool.or_eq_true]at h;rcases h with h|h
       ·exact isF_lt (hpv.out.trans h)
       ·exact isF_lt (hpt.out.trans h)
      ·obtain⟨f',hf⟩:∃f',f=f'+1:=⟨f-1,by omega⟩;rw[←hL.out.eq,hf]
       conv=>lhs;unfold localsL
       rw[if_pos (by rw[hpv.out,hpt.out];exact h),hpt.out]
       rfl)
     cases hc1:pv with
     |false=>
      rw[hc1]at hpv hexit hstep
      cases hc2:pt with
      |false=>
       rw[hc2]at hpt hexit hstep;have hF2:Hid (R2=(ls,st)):=zi (hexit.out rfl rfl);go_wp2_with fail;refine(is_from hV.out.mv [118,97,114] hpv.out).mono ?_;rintro e wa ⟨rfl,qa,hWa⟩;have hza0:=Nat.le_trans hL.out.hi hWa.size;have Va:=zi (hV.out.call qa);have Oa:=zi (own_pw hL.out.own hWa hzB2);have Pa:=zi (hL.out.par.pw hWa (Mid.not hzB));clear qa hWa;go_wp2_with fail;refine(is_from Va.out.mv [112,116,114] hpt.out).mono ?_;rintro e wb ⟨rfl,qb,hWb⟩;have hzb0:=Nat.le_trans hza0 hWb.size;have Vb:=zi (Va.out.call qb);have Ob:=zi (own_pw Oa.out hWb hzB2);have Pb:=zi (Pa.out.pw hWb (Mid.not hzB));clear qb hWb
       have Lb:Hid (VrAt wb (Ge B2) R2.1 vl):=zi (by
        rw[hF2.out]
        exact VrAt.own Ob.out (Nat.le_trans hL.out.len (by decide)) hL.out.nms)
       have hzb:Hid (B2≤wb.heap.size):=zi hzb0;obtain⟨s7,hs7⟩:∃y,y=R2.2:=⟨_,rfl⟩
       have hst7:st=s7:=by rw[hs7,hF2.out]
       rw[hst7]at Vb;replace hs7:=zi hs7;clear hst7 Ob hF2 hexit hstep Va Oa Pa;obtain⟨R3,hR3⟩:∃y,y=stmtsD C 39 s7:=⟨_,rfl⟩
       have hrd:Hid (Calls Tryz.prog 36 #[.pointer (some ⟨Z.g,0,none⟩)] wb (SlPost C Z R3 wb)):=zi (by
        have h1:=hstp.out.trans (paramsF_stp (C:=C) s3);rw[hR1e.out,←hs5.out]at h1
        have f0:s0.Few:=by rw[hs00.out];exact⟨by decide,fun _=>by decide⟩
        have f5:s5.Few:=h1.nn f0
        have d5:s5.deep=0:=by rw[h1.dp,hs00.out]
        obtain⟨f6,d6⟩:=bodyAt_ok (C:=C) f5;rw[←hs6.out]at f6 d6;have h2:=localsL_stp (C:=C) (C.tk.length+1) [] s6;rw[←hR2e.out,←hs7.out]at h2;rw[hR3]
        exact stmts_39 wb s7 Vb.out.at_ (fun h=>by
         have e6:s6.e=0:=by
          by_cases h3:s6.e=0
          ·exact h3
          ·exact absurd h (h2.er h3)
         have:=d6 e6;rw[h2.dp]
         omega) (h2.nn f6))
       have hR3b:Hid (bodyF C=R3):=zi (by
        unfold bodyF lsF
        rw[hR1.out.symm,←hs5.out,←hs6.out,←hR2e.out,←hs7.out,←hR3])
       replace hR3:=zi hR3;go_wp2_with fail;refine hrd.out.mono ?_;clear hrd;rintro e wc ⟨vb,rfl,q3,hE3⟩;have Vc:=Vb.out.call q3;have Pc:=Pb.out.pw q3.wr (Mid.not hzB);have Lc:=Lb.out.pw q3.wr (Nat.not_le_of_lt hzB2);obtain⟨bA,bc,hbs⟩:=hE3.slice_;rw[hbs]at hE3;have hE4:=hE3.ge hzb.out;have c3:=Vc.fact 3 rfl;obtain⟨f0,fz⟩:=Vc.facts;have Vd:=Vc.store 3 (.slice bA R3.1.len bc);have Pd:=Pc.pw (Writes.store wc (M:= [some gf]) (p:=⟨gf,3,none⟩) (by simp) (.slice bA R3.1.len bc)) (Mid.not hgB);have Ld:=Lc.pw (Writes.store wc (M:= [some gf]) (p:=⟨gf,3,none⟩) (by simp) (.slice bA R3.1.len bc)) (Nat.not_le_of_lt hgB2);have Ed:=hE4.st hgB2 3 (.slice bA R3.1.len bc);obtain⟨wd,hwd⟩:∃x,x=wc.setCell ⟨gf,3,none⟩ (.slice bA R3.1.len bc):=⟨_,rfl⟩;rw[←hwd]at Vd Pd Ld Ed;replace Vd:=zi Vd;replace Pd:=zi Pd;replace Ld:=zi Ld;replace Ed:=zi Ed;rw[hbs];clear q3 Vc Pc Lc hE3 hE4;obtain⟨s8,hs8⟩:∃y,y=R3.2:=⟨_,rfl⟩;rw[←hs8]at Vd;replace hs8:=zi hs8;replace Vd:=zi Vd.out;obtain⟨a0,d0,d1,d2,d3,d4,d5,d6,dfz⟩:=Vd.out.mv.facts;obtain⟨b1,b2,b3,b4,b5,b6,b7⟩:=Vd.out.mv.bounds;have hwd2:=zi hwd;clear hwd
       go_upto_region 23 with(fail);rw[←hwd2.out];clear c3 f0 fz;go_cut [110] (fun u110 wx=>Hid (u110= .bool (decide (s8.e=0∧s8.i<C.tk.length))∧VF C Z gf B s8 #[.string (strV nm),vp,vl,.slice bA R3.1.len bc] w3 wx∧VrAt wx (Mid B B2) R1.1 vp∧VrAt wx (Ge B2) R2.1 vl∧SlAt wx (Ge B2) R3.1 (.slice bA R3.1.len bc)))
       case first=>
        have hgo2:Hid (∀nq,VF C Z gf B s8 #[.string (strV nm),vp,vl,.slice bA R3.1.len bc] w3 (wd.drewN nq)∧VrAt (wd.drewN nq) (Mid B B2) R1.1 vp∧VrAt (wd.drewN nq) (Ge B2) R2.1 vl∧SlAt (wd.drewN nq) (Ge B2) R3.1 (.slice bA R3.1.len bc)):=zi fun nq=>⟨Vd.out.drew_ nq,Pd.out.keep fun x hx _=>(below_drewN (Below.refl wd.heap.size wd) nq).block x hx,Ld.out.keep fun x hx _=>(below_drewN (Below.refl wd.heap.size wd) nq).block x hx,Ed.out.below (below_drewN (Below.refl wd.heap.size wd) nq)⟩;by_cases he:s8.e=0
        ·have he':((s8.e:Int)==0)=true:=by simp;omega
         by_cases hi:s8.i<C.tk.length
         ·have hi2:decide (s8.i<C.tk.length)=true:=by simpa using hi
          have hq:Hid (decide (s8.e=0∧s8.i<C.tk.length)=true):=zi (by simp[he,hi]);clear Pd Ld Ed;go_wp2_with fail;go_quiet (fail);go_wp2_with fail
          go_meet
          case rel=>exact zi ⟨by rw[hq.out],hgo2.out nq⟩
         ·have hi2:decide (s8.i<C.tk.length)=false:=by simpa using hi
          have hq:Hid (decide (s8.e=0∧s8.i<C.tk.length)=false):=zi (by simp[hi]);clear Pd Ld Ed;go_wp2_with fail;go_quiet (fail);go_wp2_with fail
          go_meet
          case rel=>exact zi ⟨by rw[hq.out],hgo2.out nq⟩
        ·have he':((s8.e:Int)==0)=false:=by simp;omega
         have hq:Hid (decide (s8.e=0∧s8.i<C.tk.length)=false):=zi (by simp[he]);clear Pd Ld Ed;go_wp2_with fail;go_quiet (fail);go_wp2_with fail
         go_meet
         case rel=>exact zi ⟨by rw[hq.out],hgo2.out nq⟩
       case rest=>
        obtain⟨hu110,Ve,Pe,Le,Ee⟩:=hcut.out;clear hcut Vd Pd Ld Ed hwd2 a0 d0 d1 d2 d3 d4 d5 d6 dfz;replace Ve:=zi Ve;replace Pe:=zi Pe;replace Le:=zi Le;replace Ee:=zi Ee;subst hu110;obtain⟨s9,hs9⟩:∃y,y=restF C s8:=⟨_,rfl⟩
        go_upto_if 110 with(fail)
        go_cut [] (fun wx=>Hid (VF C Z gf B s9 #[.string (strV nm),vp,vl,.slice bA R3.1.len bc] w3 wx∧VrAt wx (Mid B B2) R1.1 vp∧VrAt wx (Ge B2) R2.1 vl∧SlAt wx (Ge B2) R3.1 (.slice bA R3.1.len bc)))
        case first=>
         by_cases hq:s8.e=0∧s8.i<C.tk.length
         ·have hF:Hid (failF C 51 s8=s9):=zi (by rw[hs9];unfold restF;rw[if_pos hq]);have hq2:decide (s8.e=0∧s8.i<C.tk.length)=true:=decide_eq_true hq;replace hs9:=zi hs9;replace hq:=zi hq;go_wp2_with fail;refine(fail_from Ve.out.mv 51 (by decide) hF.out).mono ?_;rintro e wq ⟨rfl,q,hW⟩;have V7:=zi (Ve.out.call q);have P7:=zi (Pe.out.pw hW (Mid.not hzB));have L7:=zi (Le.out.pw hW (Nat.not_le_of_lt hzB2));have E7:=zi (Ee.out.keep fun x hx hS=>hW.block x hx (fun e=>by simp at e;subst e;exact Nat.not_le_of_lt hzB2 hS));clear q hW;go_wp2_with fail
          go_meet
          case rel=>exact zi ⟨V7.out,P7.out,L7.out,E7.out⟩
         ·have hF:Hid (s8=s9):=zi (by rw[hs9];unfold restF;rw[if_neg hq]);have hq2:decide (s8.e=0∧s8.i<C.tk.length)=false:=decide_eq_false hq;replace hs9:=zi hs9;replace hq:=zi hq;go_wp2_with fail
          go_meet
          case rel=>exact zi ⟨by rw[←hF.out];exact Ve.out,Pe.out,Le.out,Ee.out⟩
        case rest=>
         obtain⟨V7,P7,L7,E7⟩:=hcut.out;clear hcut Ve Pe Le Ee;rename World=>wq;replace V7:=zi V7;replace P7:=zi P7;replace L7:=zi L7;replace E7:=zi E7;obtain⟨a0,d0,d1,d2,d3,d4,d5,d6,dfz⟩:=V7.out.mv.facts;have hrF:Hid (restF C (bodyF C).2=s9):=zi (by rw[hR3b.out,←hs8.out,hs9]);replace hs9:=zi hs9;by_cases he:s9.e=0
         ·have he2:((s9.e:Int) !=0)=false:=by simp;omega
          have hFE:Hid (R=(⟨nm,R1.1,R2.1,R3.1⟩,0,0)):=zi (by
           rw[hR2.out];unfold funcP;rw[hrF.out,if_neg (by omega),hhead.out,hR1.out.symm,hR3b.out]
           have e2:lsF C=R2:=by unfold lsF;rw[hR1.out.symm,←hs5.out,←hs6.out,hR2e.out]
           rw[e2])
          have V9:=V7.out;obtain⟨y0,y1⟩:=V9.facts;have x0:=V9.fact 0 rfl;have x1:=V9.fact 1 rfl;have x2:=V9.fact 2 rfl;have x3:=V9.fact 3 rfl;have hHE:=V9.ans hHr3.out (by rw[hZg.out];exact hgr3);obtain⟨z0,z1,z2,z3,z4,z5⟩:=ans_cells hHE
          have hzr:gr<Z.g:=by rw[hZg.out];exact hgr3
          obtain⟨pA,pn,pc,hps⟩:∃a b c,vp= .slice a b c:=by obtain⟨A,c,e,-⟩:=P7.out;exact⟨A,_,c,e⟩
          obtain⟨lA,ln,lc,hls⟩:∃a b c,vl= .slice a b c:=by obtain⟨A,c,e,-⟩:=L7.out;exact⟨A,_,c,e⟩
          rw[hps]at x1;rw[hls]at x2;have hW9:=put4_writes wq gr (.string (strV nm)) (.slice pA pn pc) (.slice lA ln lc) (.slice bA R3.1.len bc);have hH9:=zi (hHE.put4 (.string (strV nm)) (.slice pA pn pc) (.slice lA ln lc) (.slice bA R3.1.len bc));have hgrB:gr<B:=Nat.lt_trans hzr hzB;have hnoM:¬Mid B B2 gr:=Mid.not hgrB;have hnoG:¬Ge B2 gr:=Nat.not_le_of_lt (Nat.lt_of_lt_of_le hgrB hBB2);have P9:=P7.out.pw hW9 hnoM;have L9:=L7.out.pw hW9 hnoG;have E9:=E7.out.keep fun x hx hS=>hW9.block x hx (fun e=>by simp at e;subst e;exact hnoG hS);have hBl:Hid (w.heap.size≤B):=zi (by have:=hB3.out.size;have:=hBw.out;omega);rw[hps]at P9;rw[hls]at L9;have hF9:Hid (FnAt ((((wq.setCell ⟨gr,0,none⟩ (.string (strV nm))).setCell ⟨gr,1,none⟩ (.slice pA pn pc)).setCell ⟨gr,2,none⟩ (.slice lA ln lc)).setCell ⟨gr,3,none⟩ (.slice bA R3.1.len bc)) (Ge w.heap.size) ⟨nm,R1.1,R2.1,R3.1⟩ (.slice pA pn pc) (.slice lA ln lc) (.slice bA R3.1.len bc)):=zi
           ⟨hnl,P9.mono fun x _ hS=>Nat.le_trans hBl.out hS.1,L9.mono fun x _ hS=>Nat.le_trans (Nat.le_trans hBl.out hBB2) hS,E9.mono fun x _ hS=>Nat.le_trans (Nat.le_trans hBl.out hBB2) hS⟩
          have hB9:Hid (Below w.heap.size w ((((wq.setCell ⟨gr,0,none⟩ (.string (strV nm))).setCell ⟨gr,1,none⟩ (.slice pA pn pc)).setCell ⟨gr,2,none⟩ (.slice lA ln lc)).setCell ⟨gr,3,none⟩ (.slice bA R3.1.len bc))):=zi (by
           have h1:=hB3.out.trans (V9.wr.below hB3.out.size (fun k hk=>by
            have:=V9.lt;have:=hgr.out;simp at hk
            omega))
           exact h1.trans (hW9.below h1.size (fun k hk=>by have:=hgr.out;simp at hk;omega)))
          clear V9 hHE hW9 P9 L9 E9 hps hls P7 L7 E7;go_wp2_with fail;refine ret_cell3 rfl rfl rfl hH9.out Tryz.underlying26 Tryz.sFunc ?_;rw[hFE.out];exact⟨_,_,_,rfl,hF9.out,hB9.out⟩
         ·have he2:((s9.e:Int) !=0)=true:=by simp;omega
          have hFE:Hid (R=(Fnc.none,s9.at_,s9.e)):=zi (by
           rw[hR2.out];unfold funcP
           rw[hrF.out,if_pos he])
          clear he P7 L7 E7;go_wp2_with fail;obtain⟨wE,hwE⟩:∃x,x=wq.drew:=⟨_,rfl⟩;have V9:=V7.out.drew1;rw[←hwE]at V9;clear V7;have hHE:=V9.ans hHr3.out (by rw[hZg.out];exact hgr3);have hk:=zi (ans_cells hHE)
          have hzr:gr<Z.g:=by rw[hZg.out];exact hgr3
          obtain⟨wR,hwR0⟩:∃x,x=(((wE.setCell ⟨gr,0,none⟩ (.string ⟨#[]⟩)).setCell ⟨gr,1,none⟩ (.slice none 0 0)).setCell ⟨gr,2,none⟩ (.slice none 0 0)).setCell ⟨gr,3,none⟩ (.slice none 0 0):=⟨_,rfl⟩;have hwR:=zi hwR0;obtain⟨e3,e4,e5⟩:=V9.cells_
          have hRf:Hid (wR.cell? ⟨Z.g,3,none⟩=some (.int .i64 s9.e)∧wR.cell? ⟨Z.g,4,none⟩=some (.int .i64 s9.at_)∧Z.g<wR.heap.size):=zi (by
           rw[hwR0,put4_cell (by simp only;omega),put4_cell (by simp only;omega),put4_size]
           exact⟨e3,e4,e5⟩)
          have hgo:Hid (RetR Z s9 wE wR false wq.drew):=zi (by
           rw[←hwE]
           exact⟨e3,e4,e5,fun _=>rfl,fun h=>(by cases h)⟩)
          replace hwE:=zi hwE;have hHR:Hid (Holds wR gr 26 zero4):=zi (by rw[hwR0];exact hHE.put4 _ _ _ _)
          have hBR:Hid (Below w.heap.size w wR):=zi (by
           have h1:=hB3.out.trans (V9.wr.below hB3.out.size (fun k hk=>by
            have:=V9.lt;have:=hgr.out;simp at hk
            omega))
           rw[hwR0]
           exact h1.trans ((put4_writes wE gr _ _ _ _).below h1.size (fun k hk=>by have:=hgr.out;simp at hk;omega)))
          clear hwR0 e3 e4 e5 V9 hHE a0 d0 d1 d2 d3 d4 d5 d6 dfz;refine wp_region_tabL ((eqv (.agg #[.string ⟨#[]⟩,.slice none 0 0,.slice none 0 0,.slice none 0 0]))::(eqv (.pointer (some ⟨Z.g,0,none⟩)))::(eqv (.pointer (some ⟨Z.g,0,none⟩)))::(eqv (.pointer (some ⟨Z.g,4,none⟩)))::(eqv (.int .i64 s9.at_))::(eqv (.pointer (some ⟨Z.g,0,none⟩)))::(eqv (.pointer (some ⟨Z.g,0,none⟩)))::(eqv (.pointer (some ⟨Z.g,3,none⟩)))::(eqv (.int .i64 s9.e))::(fun _ _ _=>True)::(eqv (.int .i64 s9.at_))::(eqv (.int .i64 s9.e))::[])
           (⟨[],0,[]⟩::(rn1 8)::(rd1 119 1)::(rd1 120 2)::(rd1 121 3)::(rn1 8)::(rd1 123 5)::(rd1 124 6)::(rd1 125 7)::⟨[(2,none),(118,some 0)],0,[]⟩::(rd1 122 4)::(rd1 126 8)::[])
           (no::no::no::some 10::some 11::no::no::no::no::no::no::no::no::no::no::no::no::no::no::no::no::no::no::no::no::no::no::no::no::no::no::no::no::no::no::no::no::no::no::no::no::no::no::no::no::no::no::no::no::no::no::no::no::no::no::no::no::no::no::no::no::no::no::no::no::no::no::no::no::no::no::no::no::no::no::no::no::no::no::no::no::no::no::no::no::no::no::no::no::no::no::no::no::no::no::no::no::no::no::no::no::no::no::no::no::no::no::no::no::no::no::no::no::no::no::no::no::no::some 0::some 1::some 2::some 3::some 4::some 5::some 6::some 7::some 8::[])
           (fun L w'=>RetR Z s9 wE wR (L 9) w') (fun i w w'=>i≠9→w'=w) ?mixK26 ?okK26 ?tabK26 ?frK26 ?inK26 ?keptK26 ?startK26 ?eachK26 ?finK26
          case mixK26|okK26|tabK26|frK26=>kernel_rfl
          case inK26=>rfl
          case keptK26=>((repeat refine⟨fun _ _ _ _ _ _ _ _ _ _ _ h=>h,?_⟩);exact trivial)
          case startK26=>exact hgo.out
          case eachK26=>
           repeat' first|exact trivial|refine And.intro ?_ ?_
           ·intro w L f hC hLi hLd hLn hF;refine Step2.live rfl ?_;obtain⟨ev,ec,ef⟩:=evs f;refine relUpon_value ?_ (hC) (fun _=>rfl) rfl;go_simp
           ·intro w L f hC hLi hLd hLn ⟨d,_⟩;refine Step2.live rfl ?_;exact relUpon_value (v:=f 8) rfl (hC) (fun _=>rfl) d
           iterate 3 (intro w L f hC hLi hLd hLn ⟨a,_⟩;change _=_ at a;refine Step2.live rfl ?_;have c3:=hC.c3;have c4:=hC.c4;have clt:=hC.lt;obtain⟨ev,ec,ef⟩:=evs f;refine relUpon_value ?_ hC (fun _=>rfl) rfl;go_simp)
           ·intro w L f hC hLi hLd hLn ⟨d,_⟩;refine Step2.live rfl ?_;exact relUpon_value (v:=f 8) rfl (hC) (fun _=>rfl) d
           iterate 3 (intro w L f hC hLi hLd hLn ⟨a,_⟩;change _=_ at a;refine Step2.live rfl ?_;have c3:=hC.c3;have c4:=hC.c4;have clt:=hC.lt;obtain⟨ev,ec,ef⟩:=evs f;refine relUpon_value ?_ hC (fun _=>rfl) rfl;go_simp)
           ·intro w L f hC hLi hLd hLn ⟨a,b,_⟩;change _=_ at a b;refine Step2.live rfl ?_;have hw:=hC.a hLi;rw[hw];have k0:=hk.out.1;have k1:=hk.out.2.1;have k2:=hk.out.2.2.1;have k3:=hk.out.2.2.2.1;have g0:=hk.out.2.2.2.2.1;have gz:=hk.out.2.2.2.2.2;obtain⟨ev,ec,ef⟩:=evs f;refine relUpon_skip (w':=wR) ?_ ⟨hRf.out.1,hRf.out.2.1,hRf.out.2.2,fun h=>absurd h (by simp),fun _=>rfl⟩ (fun h=>absurd rfl h) trivial;rw[hwR.out];go_simp
           ·intro w L f hC hLi hLd hLn ⟨d,_⟩;refine Step2.live rfl ?_;exact relUpon_value (v:=f 122) rfl (hC) (fun _=>rfl) d
           ·intro w L f hC hLi hLd hLn ⟨d,_⟩;refine Step2.live rfl ?_;exact relUpon_value (v:=f 126) rfl (hC) (fun _=>rfl) d
          intro x w' hC hV
          have hd:=hC.b rfl;have ea:x 10= .int .i64 s9.at_:=hV 10 _ rfl rfl;have eb:x 11= .int .i64 s9.e:=hV 11 _ rfl rfl;replace ea:=zi ea;replace eb:=zi eb;clear hC;simp only[framed];obtain⟨w9,hw9⟩:∃y,y=w':=⟨_,rfl⟩;have hw9':w9=wR:=hw9.trans hd;rw[←hw9,hw9'];clear hw9 hw9' hd;go_wp2_with fail;refine ret_cell3 rfl rfl rfl hHR.out Tryz.underlying26 Tryz.sFunc ?_;rw[hFE.out];refine⟨_,_,_,?_,FnAt.none_ _ _,hBR.out⟩;show Ending.returned (.tuple #[.agg zero4,x 10,x 11])=_;rw[ea.out,eb.out];rfl
      |true=>
       rw[hc2]at hpt hexit hstep
       obtain⟨he0,hilt,f',hff,hRn⟩:=hstep.out rfl;obtain⟨r,hr⟩:∃y,y=moreV C ls true 20 st.next:=⟨_,rfl⟩;rw[←hr]at hRn;replace hr:=zi hr;replace hRn:=zi hRn;go_wp2_with fail;refine(is_from hV.out.mv [118,97,114] hpv.out).mono ?_;rintro e wa ⟨rfl,qa,hWa⟩;have Va:=zi (hV.out.call qa);have Oa:=zi (own_pw hL.out.own hWa hzB2);have Pa:=zi (hL.out.par.pw hWa (Mid.not hzB));have zq0:=Nat.le_trans hL.out.hi hWa.size;clear qa hWa;go_wp2_with fail;refine(is_from Va.out.mv [112,116,114] hpt.out).mono ?_;rintro e wb ⟨rfl,qb,hWb⟩;have zq:=Nat.le_trans zq0 hWb.size;have Vq:=zi (Va.out.call qb);have Oq:=zi (own_pw Oa.out hWb hzB2);have Pq:=zi (Pa.out.pw hWb (Mid.not hzB));clear qb hWb;go_wp2_with fail;refine(is_from Vq.out.mv [112,116,114] hpt.out).mono ?_;rintro e wy ⟨rfl,qy,hWy⟩;have zy:=Nat.le_trans zq hWy.size;have Vy:=Vq.out.call qy;have Oy:=zi (own_pw Oq.out hWy hzB2);have Py:=zi (Pq.out.pw hWy (Mid.not hzB));obtain⟨a0,d0,d1,d2,d3,d4,d5,d6,dfz⟩:=Vy.mv.facts;obtain⟨f0,fz⟩:=Vy.facts;have c2:=Vy.fact 2 rfl;have hne:gf≠Z.g:=Nat.ne_of_gt Vy.lt;have hne2:Z.g≠gf:=Nat.ne_of_lt Vy.lt
       have hqb:=Vy.mv.next hilt;have Vz:=Vy.call hqb;have Oz:=zi (own_pw Oy.out hqb.wr hzB2);have Pz:=zi (Py.out.pw hqb.wr (Mid.not hzB));obtain⟨wz,hwz⟩:∃x,x=wy.setCell ⟨Z.g,1,none⟩ (.int .i64 ((st.i:Int)+1)):=⟨_,rfl⟩
       have hsz:B2≤wz.heap.size:=by rw[hwz];exact Nat.le_trans zy hqb.wr.size
       rw[←hwz]at Vz Oz Pz;replace Vz:=zi Vz;have hwz2:=zi hwz;clear qy hWy hqb hwz;replace Vy:=zi Vy;go_wp2_with fail;rw[←hwz2.out];refine(more_any wz st.next Vz.out.at_ B2 hzB2 hsz vl ls Oz.out (by have:=hL.out.len;omega) hL.out.nms true 20).mono ?_;rintro e wm ⟨vm,rfl,Pm,Wm,Om,Nm⟩;have zm:=Nat.le_trans hsz Wm.size;have Vm:=Vz.out.more Oz.out hBB2 Pm Wm;have Pr:=zi (Pz.out.more hzB Oz.out Wm);rw[←hr.out]at Vm Om Nm;obtain⟨mA,mc,hms,-,-⟩:=RowS.own (S:=fun _=>True) Om (fun _ _=>trivial);rw[hms]at Om;have m2:=Vm.fact 2 rfl;obtain⟨m0,mz⟩:=Vm.facts;have Vs:=Vm.store 2 (.slice mA r.1.length mc);have hst:=Writes.store wm (M:= [some gf]) (p:=⟨gf,2,none⟩) (by simp) (.slice mA r.1.length mc);have Os:=zi (own_pw Om hst hgB2);have Ps:=zi (Pr.out.pw hst (Mid.not hgB));obtain⟨ws,hws⟩:∃x,x=wm.setCell ⟨gf,2,none⟩ (.slice mA r.1.length mc):=⟨_,rfl⟩
       have zs:B2≤ws.heap.size:=by rw[hws];exact Nat.le_trans zm hst.size
       rw[←hws]at Vs Os Ps;replace Vs:=zi Vs;have hws2:=zi hws;have Nm2:=zi Nm;clear hws hst Vm Pm Wm Om a0 d0 d1 d2 d3 d4 d5 d6 dfz f0 fz c2 Nm;rw[hms];go_wp2_with fail;rw[←hws2.out];refine(want_from Vs.out.mv [59] rfl).mono ?_;rintro e we ⟨rfl,qe,hWe⟩;have ze:=Nat.le_trans zs hWe.size;have Ve:=Vs.out.call qe;have Oe:=own_pw Os.out hWe hzB2;have Pe:=Ps.out.pw hWe (Mid.not hzB);have hbe:=Ve.at_.bounds.2.2.1;have hnx:=fun h=>want_next (C:=C) (t:= [59]) (s:=r.2) h;have hwi:=(Stp.want (C:=C) [59] r.2).i1;have hwe:=(Stp.want (C:=C) [59] r.2).er
       have hmi:st.next.i≤r.2.i:=by rw[hr.out];exact(moreV_stp (C:=C) _ _ _ _).i1
       have hmn:r.2.e=0→st.next.i+1≤r.2.i∧r.1.length=ls.length+1:=fun h=>by rw[hr.out]at h⊢;exact moreV_next h
       have hml:r.1.length≤ls.length+1:=by rw[hr.out];exact moreV_len
       have hni:st.next.i=st.i+1:=rfl;have hfu:=hL.out.fuel he0
       have hL2:Hid (LocL C Z gf B B2 R2 nm R1.1 vp f' r.1 (wantF C [59] r.2) (.slice mA r.1.length mc) w3 we):=
        zi ⟨hRn.out.symm,fun h=>by
         have h1:=hnx h
         have h2:r.2.e=0:=by
          by_cases h3:r.2.e=0
          ·exact h3
          ·exact absurd h (hwe h3)
         have h4:=hmn h2
         omega,by have h8:=hL.out.vf.at_.bounds.2.2.1;have h9:=Ve.at_.bounds.1;omega,Nm2.out,Ve,Oe,Pe,hBB2,ze⟩
       have hm1:=zi (hL.out.vf.mv.left2);have hm2:=zi (Ve.mv.left2);have hless:=zi (left2_less he0 (Nat.le_trans hbe b1) (by omega:st.i≤(wantF C [59] r.2).i) (fun(h:(wantF C [59] r.2).e=0)=>by have:=hnx h;omega));clear hnx hwi hwe hmi hmn hml hni hWe qe Ve Oe Pe hbe hfu;go_wp2_with fail;exact⟨⟨_,_,_,_,hL2⟩,by rw[hm1.out,hm2.out];exact hless.out⟩
     |true=>
      rw[hc1]at hpv hexit hstep
      obtain⟨he0,hilt,f',hff,hRn⟩:=hstep.out rfl;obtain⟨r,hr⟩:∃y,y=moreV C ls pt 20 st.next:=⟨_,rfl⟩;rw[←hr]at hRn;replace hr:=zi hr;replace hRn:=zi hRn;go_wp2_with fail;refine(is_from hV.out.mv [118,97,114] hpv.out).mono ?_;rintro e wa ⟨rfl,qa,hWa⟩;have zq:=Nat.le_trans hL.out.hi hWa.size;have Vq:=zi (hV.out.call qa);have Oq:=zi (own_pw hL.out.own hWa hzB2);have Pq:=zi (hL.out.par.pw hWa (Mid.not hzB));clear qa hWa;go_wp2_with fail;refine(is_from Vq.out.mv [112,116,114] hpt.out).mono ?_;rintro e wy ⟨rfl,qy,hWy⟩;have zy:=Nat.le_trans zq hWy.size;have Vy:=Vq.out.call qy;have Oy:=zi (own_pw Oq.out hWy hzB2);have Py:=zi (Pq.out.pw hWy (Mid.not hzB));obtain⟨a0,d0,d1,d2,d3,d4,d5,d6,dfz⟩:=Vy.mv.facts;obtain⟨f0,fz⟩:=Vy.facts;have c2:=Vy.fact 2 rfl;have hne:gf≠Z.g:=Nat.ne_of_gt Vy.lt;have hne2:Z.g≠gf:=Nat.ne_of_lt Vy.lt;have hqb:=Vy.mv.next hilt;have Vz:=Vy.call hqb;have Oz:=zi (own_pw Oy.out hqb.wr hzB2);have Pz:=zi (Py.out.pw hqb.wr (Mid.not hzB));obtain⟨wz,hwz⟩:∃x,x=wy.setCell ⟨Z.g,1,none⟩ (.int .i64 ((st.i:Int)+1)):=⟨_,rfl⟩
      have hsz:B2≤wz.heap.size:=by rw[hwz];exact Nat.le_trans zy hqb.wr.size
      rw[←hwz]at Vz Oz Pz;replace Vz:=zi Vz;have hwz2:=zi hwz;clear qy hWy hqb hwz;replace Vy:=zi Vy;go_wp2_with fail;rw[←hwz2.out];refine(more_any wz st.next Vz.out.at_ B2 hzB2 hsz vl ls Oz.out (by have:=hL.out.len;omega) hL.out.nms pt 20).mono ?_;rintro e wm ⟨vm,rfl,Pm,Wm,Om,Nm⟩;have zm:=Nat.le_trans hsz Wm.size;have Vm:=Vz.out.more Oz.out hBB2 Pm Wm;have Pr:=zi (Pz.out.more hzB Oz.out Wm);rw[←hr.out]at Vm Om Nm;obtain⟨mA,mc,hms,-,-⟩:=RowS.own (S:=fun _=>True) Om (fun _ _=>trivial);rw[hms]at Om;have m2:=Vm.fact 2 rfl;obtain⟨m0,mz⟩:=Vm.facts;have Vs:=Vm.store 2 (.slice mA r.1.length mc);have hst:=Writes.store wm (M:= [some gf]) (p:=⟨gf,2,none⟩) (by simp) (.slice mA r.1.length mc);have Os:=zi (own_pw Om hst hgB2);have Ps:=zi (Pr.out.pw hst (Mid.not hgB));obtain⟨ws,hws⟩:∃x,x=wm.setCell ⟨gf,2,none⟩ (.slice mA r.1.length mc):=⟨_,rfl⟩
      have zs:B2≤ws.heap.size:=by rw[hws];exact Nat.le_trans zm hst.size
      rw[←hws]at Vs Os Ps;replace Vs:=zi Vs;have hws2:=zi hws;have Nm2:=zi Nm;clear hws hst Vm Pm Wm Om a0 d0 d1 d2 d3 d4 d5 d6 dfz f0 fz c2 Nm;rw[hms];go_wp2_with fail;rw[←hws2.out];refine(want_from Vs.out.mv [59] rfl).mono ?_;rintro e we ⟨rfl,qe,hWe⟩;have ze:=Nat.le_trans zs hWe.size;have Ve:=Vs.out.call qe;have Oe:=own_pw Os.out hWe hzB2;have Pe:=Ps.out.pw hWe (Mid.not hzB);have hbe:=Ve.at_.bounds.2.2.1;have hnx:=fun h=>want_next (C:=C) (t:= [59]) (s:=r.2) h;have hwi:=(Stp.want (C:=C) [59] r.2).i1;have hwe:=(Stp.want (C:=C) [59] r.2).er
      have hmi:st.next.i≤r.2.i:=by rw[hr.out];exact(moreV_stp (C:=C) _ _ _ _).i1
      have hmn:r.2.e=0→st.next.i+1≤r.2.i∧r.1.length=ls.length+1:=fun h=>by rw[hr.out]at h⊢;exact moreV_next h
      have hml:r.1.length≤ls.length+1:=by rw[hr.out];exact moreV_len
      have hni:st.next.i=st.i+1:=rfl;have hfu:=hL.out.fuel he0
      have hL2:Hid (LocL C Z gf B B2 R2 nm R1.1 vp f' r.1 (wantF C [59] r.2) (.slice mA r.1.length mc) w3 we):=
       zi ⟨hRn.out.symm,fun h=>by
        have h1:=hnx h
        have h2:r.2.e=0:=by
         by_cases h3:r.2.e=0
         ·exact h3
         ·exact absurd h (hwe h3)
        have h4:=hmn h2
        omega,by have h8:=hL.out.vf.at_.bounds.2.2.1;have h9:=Ve.at_.bounds.1;omega,Nm2.out,Ve,Oe,Pe,hBB2,ze⟩
      have hm1:=zi (hL.out.vf.mv.left2);have hm2:=zi (Ve.mv.left2);have hless:=zi (left2_less he0 (Nat.le_trans hbe b1) (by omega:st.i≤(wantF C [59] r.2).i) (fun(h:(wantF C [59] r.2).e=0)=>by have:=hnx h;omega));clear hnx hwi hwe hmi hmn hml hni hWe qe Ve Oe Pe hbe hfu;go_wp2_with fail;exact⟨⟨_,_,_,_,hL2⟩,by rw[hm1.out,hm2.out];exact hless.out⟩
section
variable {P:Program} (w:World)
theorem run_append_rowS (base:Nat) (t ty e:TypeId) (i:TypeInfo) (z:Value) (size bytes:Nat) (ht:P.underlying t=some (.slice e)) (hi:P.info? e=some i) (hz:i.zero=some z)
  (hsize:i.size=size) (hby:i.bytes=bytes) (hzs:z.cells.size=size) (hsz:0<size)
  (v:Value) (n:Nat) (xs:List Value) (hown:w.ownsRow base e size v n xs)
  (A:Option Addr) (m c:Nat) (news:List Value) (hl:news.length=m*size) (hr:RowS w Evr A news) (h1:∀u∈news,u.oneCell'=true)
  (h63:n+m≤maxLen) (hbytes:(n+m)*bytes≤140737488355328) (hbase:base≤w.heap.size):
  ∃v' w',(Builtin.append_ #[t,t] ty #[v,.slice A m c]).run P w= .ok v' w'∧w'.ownsRow base e size v' (n+m) (xs++news)∧w.grownBy w' v.ownBlock∧(v'.ownBlock=v.ownBlock∨v'.ownBlock=some w.heap.size):=by
 rcases A with _|ad
 ·have hn:news= []:=hr.none_;subst hn
  have hm:m=0:=by
   rcases Nat.eq_zero_or_pos m with h|h
   ·exact h
   ·have:0<m*size:=Nat.mul_pos h hsz;simp at hl;omega
  subst hm;exact⟨v,w,run_append_empty w base t ty e i size ht hi v n xs hown c,by simpa using hown,World.grownBy.refl w _,.inl rfl⟩
 ·obtain⟨v',w',hrun,h2,h3,_,h5⟩:=run_append_own_at (P:=P) w base t ty e i z size bytes ht hi hz hsize hby hzs hsz v n xs hown ad m c news hl (fun j u hu=>hr.add j u hu) h1 h63 hbytes hbase;exact⟨v',w',hrun,h2,h3,h5⟩
variable {w}
theorem wpList_append_rowS {ops:Array Oper} {rest:List Oper} {o:Oper} {a:Act} {Q:Exit→Act→World→Prop} (hgd:o.guard=none) (s x:Operand) (t:TypeId)
  (ho:o.op= .call {callee:= .builtin .append,args:= #[s,x],argTypes:= #[t,t]})
  (base:Nat) (e:TypeId) (i:TypeInfo) (z:Value) (size bytes:Nat) (ht:P.underlying t=some (.slice e)) (hi:P.info? e=some i) (hz:i.zero=some z)
  (hsize:i.size=size) (hby:i.bytes=bytes) (hzs:z.cells.size=size) (hsz:0<size)
  (v:Value) (n:Nat) (xs:List Value) (hs:a.eval s=v) (hown:w.ownsRow base e size v n xs)
  (A:Option Addr) (m c:Nat) (news:List Value) (hx:a.eval x= .slice A m c) (hl:news.length=m*size) (hr:RowS w Evr A news) (h1:∀u∈news,u.oneCell'=true)
  (h63:n+m≤maxLen) (hbytes:(n+m)*bytes≤140737488355328) (hbase:base≤w.heap.size)
  (h:∀v' w',w'.ownsRow base e size v' (n+m) (xs++news)→w.grownBy w' v.ownBlock→(v'.ownBlock=v.ownBlock∨v'.ownBlock=some w.heap.size)→wpList P ops Q rest (a.put o.dst v') w'):wpList P ops Q (o::rest) a w:=by
 refine wpList_plain hgd fun K hK=> ?_;obtain⟨v',w',hrun,h2,h3,h4⟩:=run_append_rowS (P:=P) w base t o.type e i z size bytes ht hi hz hsize hby hzs hsz v n xs hown A m c news hl hr h1 h63 hbytes hbase;unfold Oper.wp execOp;simp only[ho,resolve,invoke,builtin,Sem.run_bind,Sem.run_pure,Result.andThen_ok,List.map_toArray,List.map_cons,List.map_nil,hs,hx,hrun];exact hK _ _ (h v' w' h2 h3 h4)
end
theorem vr_len (l:List Vr):(l.flatMap Vr.cells).length=l.length*2:=by
 induction l with
 |nil=>rfl
 |cons v l ih=>rw[List.flatMap_cons,List.length_append,ih,List.length_cons];simp[Vr.cells];omega
theorem vr_one (l:List Vr):∀u∈l.flatMap Vr.cells,u.oneCell'=true:=by
 intro u hu;obtain⟨v,_,hv⟩:=List.mem_flatMap.1 hu;simp only[Vr.cells,List.mem_cons,List.not_mem_nil,or_false]at hv;rcases hv with rfl|rfl<;>rfl
def kindV (l:List Vr) (x:List UInt8):Nat:=kindL l.reverse x
theorem kindV_snoc (l:List Vr) (v:Vr) (x:List UInt8):kindV (l++ [v]) x=if v.nm==x then(if v.ptr then 2 else 1)else kindV l x:=by
 unfold kindV;rw[List.reverse_append,List.reverse_singleton,List.singleton_append];rfl
theorem strV_eq {k:ByteArray} {x:List UInt8}:k=strV x↔k.data.toList=x:=by
 constructor
 ·intro h;rw[h];simp[strV]
 ·intro h;subst h;cases k;simp[strV]
theorem kF_snoc (l:List Vr) (v:Vr):(fun j=>if j=strV v.nm then some (Value.int .i64 ((if v.ptr then 2 else 1:Nat):Int))else kF (kindV l) j)=kF (kindV (l++ [v])):=by
 funext j;unfold kF;rw[kindV_snoc];by_cases h:j=strV v.nm
 ·have h2:=strV_eq.1 h;rw[if_pos h,h2]
  have e:(v.nm==v.nm)=true:=by simp
  rw[e,if_pos rfl];cases v.ptr<;>rfl
 ·rw[if_neg h];have h2:¬j.data.toList=v.nm:=fun e=>h (strV_eq.2 e)
  have e:(v.nm==j.data.toList)=false:=by rw[beq_eq_false_iff_ne];exact fun e=>h2 e.symm
  simp only[e,Bool.false_eq_true,if_false]
def fnC (nm:List UInt8) (A1 A2 A3:Option Addr) (n1 c1 n2 c2 n3 c3:Nat):Array Value:= #[.string (strV nm),.slice A1 n1 c1,.slice A2 n2 c2,.slice A3 n3 c3]
theorem flatMap_vr:∀(l:List Vr) {i:Nat} (hi:i<l.length) (r:Nat) (v:Value),(Vr.cells l[i])[r]? =some v→(l.flatMap Vr.cells)[i*2+r]? =some v
 | [],i,hi,_,_,_=>absurd hi (by simp)
 |a::l,i,hi,r,v,h=>by
  rw[List.flatMap_cons]
  cases i with
  |zero=>
   have hr:r<(Vr.cells a).length:=(List.getElem?_eq_some_iff.1 h).1;rw[Nat.zero_mul,Nat.zero_add,List.getElem?_append_left hr];exact h
  |succ i=>
   have e:(Vr.cells a).length=2:=rfl;rw[List.getElem?_append_right (by rw[e];omega),e];have:=flatMap_vr l (i:=i) (by simpa using hi) r v (by simpa using h);rw[←this];congr 1;omega
structure VoL (A:Option Addr) (m gk gr:Nat) (l:List Vr) (k:Nat) (w0 w:World):Prop where
 row:RowS w (fun x=>x≠m) A (l.flatMap Vr.cells)
 km:SMap w m k (kF (kindV (l.take k)))
 hk:Holds w gk 83 #[.map (some m)]
 hr:Holds w gr 83 #[.map none]
 bl:Below w0.heap.size w0 w
 m0:w0.heap.size≤m
 gm:gk≠m
 rm:gr≠m
 rk:gr≠gk
 r0:w0.heap.size≤gr
theorem VoL.below {A:Option Addr} {m gk gr k:Nat} {l:List Vr} {w0 w w':World} (h:VoL A m gk gr l k w0 w) (hb:Below w.heap.size w w'):VoL A m gk gr l k w0 w':=
 ⟨h.row.keep fun x hx _=>hb.block x hx,h.km.loc (hb.block m h.km.lt),h.hk.below hb h.hk.lt,h.hr.below hb h.hr.lt,h.bl.trans (hb.mono h.bl.size),h.m0,h.gm,h.rm,h.rk,h.r0⟩
theorem VoL.step {A:Option Addr} {m gk gr k:Nat} {l:List Vr} {w0 w:World} (h:VoL A m gk gr l k w0 w) (hk:k<l.length) (hN:k≤1000000) (hx:l[k].nm.length≤4096):
  ∃w',(Instr.mapUpdate 81 (.map (some m)) (.string (strV l[k].nm)) (.int .i64 ((if l[k].ptr then 2 else 1:Nat):Int))).run Tryz.prog w= .ok () w'∧VoL A m gk gr l (k+1) w0 w':=by
 obtain⟨w',hr,hm,hg,hs⟩:=h.km.store Tryz.underlying81 (k:=strV l[k].nm) (by simp[strV,ByteArray.size,maxLen];omega) hN (.int .i64 ((if l[k].ptr then 2 else 1:Nat):Int));have hW:Writes [some m] w w':=Writes.of_grown hg (by simp);refine⟨w',hr,h.row.keep fun x hx hS=>hW.block x hx (by simp;exact hS),?_,hW.holds h.hk (by simp;exact h.gm),hW.holds h.hr (by simp;exact h.rm),h.bl.trans (hW.below h.bl.size fun j hj=>by simp at hj;subst hj;exact h.m0),h.m0,h.gm,h.rm,h.rk,h.r0⟩;rw[kF_snoc]at hm;rw[List.take_add_one,List.getElem?_eq_getElem hk];exact hm
theorem VoL.at_ {A:Option Addr} {m gk gr k:Nat} {l:List Vr} {w0 w:World} (h:VoL A m gk gr l k w0 w) {i:Nat} (hi:i<l.length):∃b off,A=some ⟨b,off,none⟩∧w.cell? ⟨b,off+i*2,none⟩=some (.string (strV l[i].nm))∧w.cell? ⟨b,off+i*2+1,none⟩=some (.bool l[i].ptr):=by
 have hne:l.flatMap Vr.cells≠[]:=fun e=>by have:=vr_len l;rw[e]at this;simp at this;omega
 obtain⟨b,off,e,-,hc⟩:=h.row hne;refine⟨b,off,e,hc _ _ (flatMap_vr l hi 0 _ rfl),?_⟩;rw[Nat.add_assoc];exact hc _ _ (flatMap_vr l hi 1 _ rfl)
end Go.Proofs.YtpndglghpojjkaaGreat
namespace Go.Proofs.YtpndglghpojjkaaGreat
open Go.Lib
def dupB:List S→Bool
 | []=>false
 |x::l=>l.contains x||dupB l
theorem dupB_nodup:∀(l:List S),dupB l=false↔l.Nodup
 | []=>by simp[dupB]
 |x::l=>by unfold dupB;rw[Bool.or_eq_false_iff,List.nodup_cons,dupB_nodup l];simp
end Go.Proofs.YtpndglghpojjkaaGreat
namespace Go.Proofs.YtpndglghpojjkaaGreat
open Go.RowKit Go.Deep
def globS:List UInt8:= [103,108,111,98,97,108,115]
def fNames (l:List Vr):List S:=l.map Vr.nm
def resBody (f:Fnc):Option Nat→Fnc×Int×Nat
 |some a=>(Fnc.none,a,61)
 |none=>(⟨f.nm,f.ps,f.ls,listP (kindV (f.ps++f.ls)) f.body⟩,0,0)
def resTwice (f:Fnc):Fnc×Int×Nat:=if dupB (fNames (f.ps++f.ls))then(Fnc.none,-1,60)else resBody f (firstP (kindV (f.ps++f.ls)) f.body)
def resolveP (f:Fnc) (unit:S):Fnc×Int×Nat:=if f.nm≠unit∨unit=globS then(Fnc.none,-1,62)else resTwice f
def ResPost (r:Fnc×Int×Nat) (w:World) (e:Ending) (w':World):Prop:=
 ∃vp vl vb,e= .returned (.tuple #[.agg #[.string (strV r.1.nm),vp,vl,vb],.int .i64 r.2.1,.int .i64 r.2.2])∧FnAt w' Evr r.1 vp vl vb∧Below w.heap.size w w'
theorem strV_nb {a b:List UInt8} (h:a≠b):((strV a).toList==(strV b).toList)=false:=by
 rw[strV_toList,strV_toList];simpa using h
theorem ResPost.no (w w':World) (at_:Int) (k:Nat) (hb:Below w.heap.size w w'):ResPost (Fnc.none,at_,k) w (.returned (.tuple #[.agg #[.string ⟨#[]⟩,.slice none 0 0,.slice none 0 0,.slice none 0 0],.int .i64 at_,.int .i64 k])) w':=
 ⟨_,_,_,rfl,FnAt.none_ w' Evr,hb⟩
def nmsV (l:List Vr) (k:Nat):List Value:=(l.take k).map fun x=>encStr x.nm
structure NmL (l:List Vr) (w3:World) (v:Value) (k:Nat) (w:World):Prop where
 own:w.ownsRow w3.heap.size 9 1 v k (nmsV l k)
 bl:Below w3.heap.size w3 w
theorem vrow_at {w:World} {S:Nat→Prop} {A:Option Addr} {l:List Vr} (h:RowS w S A (l.flatMap Vr.cells)) {i:Nat} (hi:i<l.length):∃b off,A=some ⟨b,off,none⟩∧w.cell? ⟨b,off+i*2,none⟩=some (.string (strV l[i].nm))∧w.cell? ⟨b,off+i*2+1,none⟩=some (.bool l[i].ptr):=by
 have hne:l.flatMap Vr.cells≠[]:=fun e=>by have:=vr_len l;rw[e]at this;simp at this;omega
 obtain⟨b,off,e,-,hc⟩:=h hne;refine⟨b,off,e,hc _ _ (flatMap_vr l hi 0 _ rfl),?_⟩;rw[Nat.add_assoc];exact hc _ _ (flatMap_vr l hi 1 _ rfl)
structure RvW (gp gr:Nat) (cs:Array Value) (w0 w:World):Prop where
 hp:Holds w gp 26 cs
 hr:Holds w gr 26 zero4
 bl:Below w0.heap.size w0 w
 p0:w0.heap.size≤gp
 r0:w0.heap.size≤gr
 pr:gp<gr
section
variable {gp gr:Nat} {cs:Array Value} {w0 w w':World} {a b c d:Value}
theorem RvW.below (h:RvW gp gr cs w0 w) (hb:Below w.heap.size w w'):RvW gp gr cs w0 w':=⟨h.hp.below hb h.hp.lt,h.hr.below hb h.hr.lt,h.bl.trans (hb.mono h.bl.size),h.p0,h.r0,h.pr⟩
theorem RvW.facts (h:RvW gp gr #[a,b,c,d] w0 w):w.cell? ⟨gp,0,none⟩=some a∧w.cell? ⟨gp,1,none⟩=some b∧w.cell? ⟨gp,2,none⟩=some c∧w.cell? ⟨gp,3,none⟩=some d∧gp<w.heap.size∧∀i,w.frozen? ⟨gp,i,none⟩=false:=
 ⟨h.hp.cell 0,h.hp.cell 1,h.hp.cell 2,h.hp.cell 3,h.hp.lt,fun i=>h.hp.frozen i⟩
theorem RvW.factsR (h:RvW gp gr cs w0 w):w.cell? ⟨gr,0,none⟩=some (.string ⟨#[]⟩)∧w.cell? ⟨gr,1,none⟩=some (.slice none 0 0)∧w.cell? ⟨gr,2,none⟩=some (.slice none 0 0)∧w.cell? ⟨gr,3,none⟩=some (.slice none 0 0)∧gr<w.heap.size∧∀i,w.frozen? ⟨gr,i,none⟩=false:=
 ⟨h.hr.cell 0,h.hr.cell 1,h.hr.cell 2,h.hr.cell 3,h.hr.lt,fun i=>h.hr.frozen i⟩
theorem RvW.put (h:RvW gp gr cs w0 w) (i:Nat) (u:Value):RvW gp gr (cs.setIfInBounds i u) w0 (w.setCell ⟨gp,i,none⟩ u):=by
 have hW:Writes [some gp] w (w.setCell ⟨gp,i,none⟩ u):=Writes.store w (by simp) u;exact⟨h.hp.store i u,hW.holds h.hr (by have:=h.pr;simp;omega),h.bl.trans (hW.below h.bl.size fun k hk=>by simp at hk;subst hk;exact h.p0),h.p0,h.r0,h.pr⟩
theorem RvW.writes {x:Nat} (h:RvW gp gr cs w0 w) (hW:Writes [some x] w w') (hx:gr<x):RvW gp gr cs w0 w':=by
 have h1:=h.pr;have h2:=h.r0;exact⟨hW.holds h.hp (by simp;omega),hW.holds h.hr (by simp;omega),h.bl.trans (hW.below h.bl.size fun k hk=>by simp at hk;omega),h.p0,h.r0,h.pr⟩
end
theorem VrAt.new {w:World} {l:List Vr} {v:Value} {base:Nat} (h:w.ownsRow base 79 2 v l.length (l.flatMap Vr.cells)) (hl:l.length≤100000) (hn:∀x∈l,x.nm.length≤4096):∃A c,v= .slice A l.length c∧VrAt w (Ge base) l (.slice A l.length c):=by
 obtain⟨A,c,rfl,hr,hc⟩:=RowS.own (S:=Ge base) h (fun _ hg=>ownK_ge h hg);exact⟨A,c,rfl,A,c,rfl,hl,hc,hr,hn⟩
theorem RsI.wr {m r a n x:Nat} {K:List UInt8→Nat} {w w':World} (h:RsI m K r a n w) (hW:Writes [some x] w w') (hr:x<r) (hm:x<m):RsI m K r a n w':=by
 have:=h.ra;exact⟨h.km.writes hW (by simp;omega),hW.holds h.hr (by simp;omega),hW.holds h.ha (by simp;omega),h.ra,h.ma⟩
section
variable {P:Program} (w:World)
theorem relUpon_append_rowS {o:Oper} {ρ:Operand→Value} {A1 B1:World→Prop} {D:World→Value→Prop} (s x:Operand) (t:TypeId)
  (ho:o.op= .call {callee:= .builtin .append,args:= #[s,x],argTypes:= #[t,t]})
  (base:Nat) (e:TypeId) (i:TypeInfo) (z:Value) (size bytes:Nat) (ht:P.underlying t=some (.slice e)) (hi:P.info? e=some i) (hz:i.zero=some z)
  (hsize:i.size=size) (hby:i.bytes=bytes) (hzs:z.cells.size=size) (hsz:0<size)
  (v:Value) (n:Nat) (xs:List Value) (hs:ρ s=v) (hown:w.ownsRow base e size v n xs)
  (A:Option Addr) (m c:Nat) (news:List Value) (hx:ρ x= .slice A m c) (hl:news.length=m*size) (hr:RowS w Evr A news) (h1:∀u∈news,u.oneCell'=true)
  (h63:n+m≤maxLen) (hbytes:(n+m)*bytes≤140737488355328) (hbase:base≤w.heap.size)
  (h:∀v' w',w'.ownsRow base e size v' (n+m) (xs++news)→w.grownBy w' v.ownBlock→A1 w'∧B1 w'∧D w' v'):
  relUpon P (fun v w'=>A1 w'∧B1 w'∧D w' v) ((execOp ρ o).run P w):=by
 obtain⟨v',w',hrun,h2,h3,-⟩:=run_append_rowS (P:=P) w base t o.type e i z size bytes ht hi hz hsize hby hzs hsz v n xs hown A m c news hl hr h1 h63 hbytes hbase;unfold execOp;simp only[ho,resolve,invoke,builtin,Sem.run_bind,Sem.run_pure,Result.andThen_ok,List.map_toArray,List.map_cons,List.map_nil,hs,hx,hrun];exact h v' w' h2 h3
end
theorem kindL_skip:∀(l:List Vr) (k:Nat) (x:List UInt8),(∀v∈l.take k,v.nm≠x)→kindL l x=kindL (l.drop k) x
 |l,0,_,_=>rfl
 | [],k+1,_,_=>rfl
 |v::l,k+1,x,h=>by
  have h1:(v.nm==x)=false:=by simpa using h v (by simp)
  show kindL (v::l) x=kindL (l.drop k) x
  conv=>lhs;unfold kindL
  rw[h1];simp only[Bool.false_eq_true,if_false];exact kindL_skip l k x fun u hu=>h u (by simp[hu])
theorem kind_any (w:World) (nm:List UInt8) (ps ls:List Vr) (A1 A2 A3:Option Addr) (c1 c2 n3 c3:Nat) (h1:VrAt w Evr ps (.slice A1 ps.length c1)) (h2:VrAt w Evr ls (.slice A2 ls.length c2)) (z:List UInt8):
  Calls Tryz.prog 142 #[.agg (fnC nm A1 A2 A3 ps.length c1 ls.length c2 n3 c3),.string (strV z)] w fun e w'=>e= .returned (.int .i64 (kindL (ps++ls) z))∧Below w.heap.size w w':=by
 obtain⟨iA,hiA,hzA0,hzA1,hzA2⟩:=info_parts Tryz.clVar;obtain⟨A1',c1',e1,a1,a2,a3,a4⟩:=h1;injection e1 with e1 e1' e1'';subst e1 e1'';obtain⟨A2',c2',e2,b1,b2,b3,b4⟩:=h2;injection e2 with e2 e2' e2'';subst e2 e2'';have hl1:Hid ((ps.flatMap Vr.cells).length=ps.length*2):=zi (vr_len ps);have hl2:Hid ((ls.flatMap Vr.cells).length=ls.length*2):=zi (vr_len ls);obtain⟨n1,hn1⟩:∃y,y=ps.length:=⟨_,rfl⟩;obtain⟨n2,hn2⟩:∃y,y=ls.length:=⟨_,rfl⟩;rw[←hn1]at a1 hl1;rw[←hn2]at b1 hl2;rw[←hn1,←hn2];obtain⟨K,hK⟩:∃y,y=kindL (ps++ls) z:=⟨_,rfl⟩;rw[←hK];have hln:Hid ((ps++ls).length=n1+n2):=zi (by rw[List.length_append,hn1,hn2]);obtain⟨w1,hw1⟩:∃y,y=w.alloc (.cells (fnC nm A1 A2 A3 n1 c1 n2 c2 n3 c3) 26):=⟨_,rfl⟩;obtain⟨gp,hgp⟩:∃y,y=w.heap.size:=⟨_,rfl⟩
 have hb1:Below w.heap.size w w1:=by rw[hw1];exact below_new w _
 have hH:Holds w1 gp 26 (fnC nm A1 A2 A3 n1 c1 n2 c2 n3 c3):=by rw[hw1,hgp];exact Holds.new w _ _
 obtain⟨wW,hwW⟩:∃y,y=w1.drew:=⟨_,rfl⟩
 have hbd:Below w1.heap.size w1 wW:=by rw[hwW];exact(Below.refl _ w1).drew
 have hbW:=zi (hb1.trans (hbd.mono hb1.size));have hHW:=hH.below hbd hH.lt
 have hfc:Hid (∀w',Below wW.heap.size wW w'→w'.cell? ⟨gp,1,none⟩=some (.slice A1 n1 c1)∧w'.cell? ⟨gp,2,none⟩=some (.slice A2 n2 c2)∧gp<w'.heap.size):=zi fun w' hb=>by have h:=hHW.below hb hHW.lt;exact⟨h.cell 1,h.cell 2,h.lt⟩
 have hr1:=zi a3;have hr2:=zi b3;have hgo:Hid (Below wW.heap.size wW w1.drew):=zi (by rw[←hwW];exact Below.refl _ _);have hn12:=zi (And.intro hn1 hn2);have hK':=zi hK;have hfo:=zi hw1.symm;have hgp':=zi hgp.symm;clear hw1 hgp hb1 hH hwW hbd hHW a3 b3 a4 b4 hn1 hn2 hK;unfold fnC at hfo⊢;go_enter Tryz.func142,Tryz.ntmps142;go_upto_region 1 with(fail);rw[hfo.out,hgp'.out];clear hfo hgp';refine wp_region_tabL ((eqv (.pointer (some ⟨gp,1,none⟩)))::(eqv (.slice A1 n1 c1))::(fun L w v=>L 5=false→w.ownsRow wW.heap.size 79 2 v n1 (ps.flatMap Vr.cells))::(eqv (.pointer (some ⟨gp,2,none⟩)))::(eqv (.slice A2 n2 c2))::(fun L w v=>L 2=true∧L 5=true∧w.ownsRow wW.heap.size 79 2 v (n1+n2) ((ps++ls).flatMap Vr.cells))::(fun L w v=>L 2=true∧L 5=true∧w.ownsRow wW.heap.size 79 2 v (n1+n2) ((ps++ls).flatMap Vr.cells))::[])
  ((rn1 2)::(rd1 7 0)::(rd1 8 1)::(rn1 2)::(rd1 10 3)::⟨[(9,some 2),(11,some 4)],0,[]⟩::(rd1 12 5)::[])
  (no::no::no::no::no::so 6::no::so 0::so 1::so 2::so 3::so 4::so 5::[])
  (fun _ w'=>Below wW.heap.size wW w') (fun i w w'=>i≠2→i≠5→w'=w) ?mixK1 ?okK1 ?tabK1 ?frK1 ?inK1 ?keptK1 ?startK1 ?eachK1 ?finK1
 case mixK1|okK1|tabK1|frK1=>kernel_rfl
 case inK1=>rfl
 case keptK1=>exact⟨fun _ _ _ _ _ _ _ _ _ _ _ h=>h,fun _ _ _ _ _ _ _ _ _ _ _ h=>h,fun i hne hr L w w' v hLi hC hC' hG h h1=>by
    have h5:i≠5:=fun e=>by subst e;simp at h1
    have n5:(5==i)=false:=by simpa using fun e=>h5 e.symm
    have a1:L 5=false:=by simpa[n5]using h1
    rw[hG (fun e=>hne e) h5]
    exact h a1,fun _ _ _ _ _ _ _ _ _ _ _ h=>h,fun _ _ _ _ _ _ _ _ _ _ _ h=>h,fun i hne hr L w w' v hLi hC hC' hG h=>by
    have h2:i≠2:=fun e=>by subst e;rw[h.1]at hLi;cases hLi
    have h5:i≠5:=fun e=>by subst e;rw[h.2.1]at hLi;cases hLi
    rw[hG h2 h5]
    exact⟨by simp[h.1],by simp[h.2.1],h.2.2⟩,fun i hne hr L w w' v hLi hC hC' hG h=>by
    have h2:i≠2:=fun e=>by subst e;rw[h.1]at hLi;cases hLi
    have h5:i≠5:=fun e=>by subst e;rw[h.2.1]at hLi;cases hLi
    rw[hG h2 h5]
    exact⟨by simp[h.1],by simp[h.2.1],h.2.2⟩,trivial⟩
 case startK1=>exact hgo.out
 case eachK1=>
  refine⟨?_,?_,?_,?_,?_,?_,?_,trivial⟩
  iterate 2 (intro w L f hC hLi hLd hLn ⟨a,_⟩;change _=_ at a;refine Step2.live rfl ?_;have qq:=hfc.out w hC;obtain⟨q1,q2,ql⟩:=qq;obtain⟨ev,ec,ef⟩:=evs f;refine relUpon_value ?_ hC (fun _ _=>rfl) rfl;go_simp)
  ·intro w L f hC hLi hLd hLn ⟨d8,_⟩;change _=_ at d8;refine Step2.live rfl ?_;obtain⟨ev,ec,ef⟩:=evs f;refine relUpon_append_rowS w (.const (.slice none 0 0)) (.tmp 8) 23 rfl wW.heap.size 79 iA _ 2 24 Tryz.underlying23 hiA hzA0 hzA1 hzA2 rfl (by omega) (.slice none 0 0) 0 [] (by rw[ec]) (World.ownsRow_nil _ _ _ _) A1 n1 c1 (ps.flatMap Vr.cells) (by rw[ev,d8]) hl1.out (hr1.out.up (hbW.out.trans (hC.mono hbW.out.size))) (vr_one ps) (by unfold maxLen;omega) (by omega) hC.size ?_;intro v' w' ho hg;have hb:Below w.heap.size w w':=⟨hg.os,hg.tape,hg.output,hg.size,fun k hk=>hg.block k hk (by simp[Value.ownBlock])⟩;exact⟨hC.trans (hb.mono hC.size),fun h=>absurd rfl h,fun _=>by simpa using ho⟩
  iterate 2 (intro w L f hC hLi hLd hLn ⟨a,_⟩;change _=_ at a;refine Step2.live rfl ?_;have qq:=hfc.out w hC;obtain⟨q1,q2,ql⟩:=qq;obtain⟨ev,ec,ef⟩:=evs f;refine relUpon_value ?_ hC (fun _ _=>rfl) rfl;go_simp)
  ·intro w L f hC hLi hLd hLn ⟨d9,d11,_⟩;change _=_ at d11;refine Step2.live rfl ?_;have l2:L 2=true:=hLd 2 (by decide);have ho1:=d9 hLi;obtain⟨ev,ec,ef⟩:=evs f;refine relUpon_append_rowS w (.tmp 9) (.tmp 11) 23 rfl wW.heap.size 79 iA _ 2 24 Tryz.underlying23 hiA hzA0 hzA1 hzA2 rfl (by omega) (f 9) n1 (ps.flatMap Vr.cells) (by rw[ev]) ho1 A2 n2 c2 (ls.flatMap Vr.cells) (by rw[ev,d11]) hl2.out (hr2.out.up (hbW.out.trans (hC.mono hbW.out.size))) (vr_one ls) (by unfold maxLen;omega) (by omega) hC.size ?_;intro v' w' ho hg;exact⟨hC.grown hg hC.size (fun g hg=>(ho1.lt g hg).1),fun _ h=>absurd rfl h,by simp[l2],by simp,by rw[List.flatMap_append];exact ho⟩
  ·intro w L f hC hLi hLd hLn ⟨d,_⟩;refine Step2.live rfl ?_;exact relUpon_value (v:=f 12) rfl (hC) (fun _ _=>rfl) d
 intro x w' hC hV
 obtain⟨-,-,ho⟩:=hV 6 _ rfl rfl;clear hV;obtain⟨vv,hvv⟩:∃v,v=x 6:=⟨_,rfl⟩;rw[←hvv]at ho;simp only[framed];rw[←hvv];clear hvv;have hB:=zi (hbW.out.trans (hC.mono hbW.out.size));clear hC;obtain⟨N,hN⟩:∃y,y=n1+n2:=⟨_,rfl⟩;rw[←hN]at ho hln;obtain⟨vA,vc,rfl,hrow,hvc⟩:=RowS.own (S:=Evr) ho (fun _ _=>trivial)
 have hN6:N≤200000:=by omega
 have hrow':=zi hrow;clear ho hrow hN;go_wp2_with fail
 go_loop [6] (fun i=>∃k:Nat,k≤N∧i= .int .i64 k∧Hid (∀v∈(ps++ls).take k,v.nm≠z)) (fun i=>N-(intOf i).toNat)
 case atStart=>exact⟨0,by omega,rfl,zi (by simp)⟩
 obtain⟨k,hk,rfl,hsk⟩:=hrel;have hkd:Hid (K=kindL ((ps++ls).drop k) z):=zi (by rw[hK'.out];exact kindL_skip _ k z hsk.out);by_cases hlt:k<N
 ·have hkl:k<(ps++ls).length:=by rw[hln.out];exact hlt
  obtain⟨b,off,rfl,q0,q1⟩:=vrow_at hrow'.out hkl;have hd:(ps++ls).drop k=(ps++ls)[k]::(ps++ls).drop (k+1):=List.drop_eq_getElem_cons hkl;rw[hd]at hkd;have htk:=zi (List.take_succ_eq_append_getElem hkl);clear hd;generalize (ps++ls)[k]=u at q0 q1 hkd htk;obtain⟨nx,px⟩:=u;simp only at q0 q1;by_cases hx:nx=z
  ·have hxe:((strV nx).toList==(strV z).toList)=true:=by rw[hx];simp
   have hKK:Hid (K=if px then 2 else 1):=zi (by rw[hkd.out];unfold kindL;simp[hx]);clear hkd htk hx hsk;cases px
   ·go_wp2_with fail;go_ret;exact⟨by rw[hKK.out];rfl,hB.out⟩
   ·go_wp2_with fail;go_ret;exact⟨by rw[hKK.out];rfl,hB.out⟩
  ·have hxe:=strV_nb hx
   have hsk2:Hid (∀v∈(ps++ls).take (k+1),v.nm≠z):=zi (by
    rw[htk.out];intro v hv;rcases List.mem_append.1 hv with h|h
    ·exact hsk.out v h
    ·simp at h;subst h
     exact hx)
   clear hkd htk hx hsk;go_wp2_with fail;go_round
   case rel=>exact⟨k+1,by omega,by go_num,hsk2⟩
   case measure=>simp[intOf];omega
 ·obtain rfl:k=N:=by omega
  have hKK:Hid (K=0):=zi (by rw[hkd.out,List.drop_of_length_le (by rw[hln.out];exact Nat.le_refl _)];rfl);clear hkd hsk;go_wp2_with fail;go_ret;exact⟨by rw[hKK.out];rfl,hB.out⟩
theorem Tryz.clNamed:(Tryz.prog.info? 128).map (fun i=>(i.zero,i.size,i.bytes))=some (some (.agg #[.string ⟨#[]⟩,.bool false,.int .i64 0,.int .i64 0]),4,40):=by kernel_rfl
theorem Tryz.clPoint:(Tryz.prog.info? 132).map (fun i=>(i.zero,i.size,i.bytes))=some (some (.agg #[.string ⟨#[]⟩,.bool false,.slice none 0 0]),3,48):=by kernel_rfl
theorem PzO.up {w w':World} {B:Nat} {p:Pz} {v:Value} (h:PzO w B p v) (hb:Below w.heap.size w w'):PzO w' B p v:=by
 obtain⟨A,c,e,ho⟩:=h;exact⟨A,c,e,own_below ho hb⟩
theorem PzO.base {w:World} {B B':Nat} {p:Pz} {v:Value} (h:PzO w B p v) (hB:B'≤B):PzO w B' p v:=by
 obtain⟨A,c,e,ho⟩:=h;exact⟨A,c,e,own_base ho hB⟩
theorem rowS_holds {w:World} {g:Nat} {t:TypeId} {cs:List Value} (h:Holds w g t cs.toArray):RowS w Evr (some ⟨g,0,none⟩) cs:=fun _=>
 ⟨g,0,rfl,trivial,fun j u hu=>by rw[Nat.zero_add,h.cell j];simpa using hu⟩
def PtrAt (w:World) (B:Nat) (r:PRw) (q:ByteArray×Pz):Prop:=r.nm=q.1∧r.nul=q.2.nul∧r.n=q.2.cells.length∧w.ownsRow B 9 1 (.slice r.A r.n r.c) r.n (q.2.cells.map encStr)
def PtrsAt (w:World) (B:Nat) (lp:List PRw) (qs:List (ByteArray×Pz)):Prop:=(lp.map fun r=>r.nm)=(qs.map fun q=>q.1)∧∀r∈lp,∃p,PtrAt w B r (r.nm,p)∧(r.nm,p)∈qs
def KeptO (e0:TypeId) (B:Nat) (w w':World):Prop:=Below B w w'∧∀B' e k v n xs,e≠e0→w.ownsRow B' e k v n xs→w'.ownsRow B' e k v n xs
theorem KeptO.below {e0:TypeId} {B:Nat} {w w':World} (h:Below w.heap.size w w') (hB:B≤w.heap.size):KeptO e0 B w w':=⟨h.mono hB,fun _ _ _ _ _ _ _ ho=>own_below ho h⟩
theorem KeptO.trans {e0:TypeId} {B:Nat} {w w' w'':World} (h:KeptO e0 B w w') (h':KeptO e0 B w' w''):KeptO e0 B w w'':=⟨h.1.trans h'.1,fun _ _ _ _ _ _ hne ho=>h'.2 _ _ _ _ _ _ hne (h.2 _ _ _ _ _ _ hne ho)⟩
theorem KeptO.grown {e0:TypeId} {B k:Nat} {w w':World} {v:Value} {n:Nat} {xs:List Value} (ho:w.ownsRow B e0 k v n xs) (hg:w.grownBy w' v.ownBlock) (hB:B≤w.heap.size):KeptO e0 B w w':=
 ⟨(Below.refl B w).grown hg hB (fun g hg=>(ho.lt g hg).1),fun _ _ _ _ _ _ hne ho'=>own_other ho' ho hne hg⟩
theorem PtrAt.kept {e0:TypeId} {B B':Nat} {w w':World} (hk:KeptO e0 B' w w') (he:9≠e0) {r:PRw} {q:ByteArray×Pz} (h:PtrAt w B r q):PtrAt w' B r q:=⟨h.1,h.2.1,h.2.2.1,hk.2 _ _ _ _ _ _ he h.2.2.2⟩
theorem PtrsAt.kept {e0:TypeId} {B B':Nat} {w w':World} (hk:KeptO e0 B' w w') (he:9≠e0) {lp:List PRw} {qs:List (ByteArray×Pz)} (h:PtrsAt w B lp qs):PtrsAt w' B lp qs:=⟨h.1,fun r hr=>by
 obtain⟨p,h1,h2⟩:=h.2 r hr
 exact⟨p,h1.kept hk he,h2⟩⟩
theorem PtrsAt.snoc {w:World} {B:Nat} {lp:List PRw} {qs:List (ByteArray×Pz)} (h:PtrsAt w B lp qs) {r:PRw} {q:ByteArray×Pz} (hr:PtrAt w B r q):PtrsAt w B (lp++ [r]) (qs++ [q]):=by
 obtain⟨nm,p⟩:=q;have hn:r.nm=nm:=hr.1;refine⟨by simp[h.1,hn],fun x hx=> ?_⟩;rcases List.mem_append.1 hx with h1|h1
 ·obtain⟨p',h2,h3⟩:=h.2 x h1;exact⟨p',h2,List.mem_append_left _ h3⟩
 ·have:x=r:=by simpa using h1
  subst this;exact⟨p,by rw[hn];exact hr,by rw[hn];simp⟩
theorem PtrsAt.len {w:World} {B:Nat} {lp:List PRw} {qs:List (ByteArray×Pz)} (h:PtrsAt w B lp qs):lp.length=qs.length:=by
 have:=congrArg List.length h.1;simpa using this
def AppP (wq:World) (B:Nat) (xv:Value) (lp:List PRw) (nm:ByteArray) (nul:Bool) (l:List S) (w:World) (v:Value):Prop:=
 ∃A c wA,Below wq.heap.size wq wA∧wA.ownsRow B 9 1 (.slice A l.length c) l.length (l.map encStr)∧wA.grownBy w xv.ownBlock∧w.ownsRow B 132 3 v (lp.length+1) ((lp++ [(⟨nm,nul,A,l.length,c⟩:PRw)]).flatMap encP)
def AppN (wq:World) (B:Nat) (xv:Value) (li:List NRw) (r:NRw) (w:World) (v:Value):Prop:=
 ∃wA,Below wq.heap.size wq wA∧wA.grownBy w xv.ownBlock∧w.ownsRow B 128 4 v (li.length+1) ((li++ [r]).flatMap encN)
theorem AppP.step {wq w:World} {B:Nat} {xv v:Value} {lp:List PRw} {nm:ByteArray} {nul:Bool} {l:List S} (h:AppP wq B xv lp nm nul l w v) (hx:wq.ownsRow B 132 3 xv lp.length (lp.flatMap encP)) (hB:B≤wq.heap.size):
  ∃r,w.ownsRow B 132 3 v (lp++ [r]).length ((lp++ [r]).flatMap encP)∧KeptO 132 B wq w∧PtrAt w B r (nm,⟨nul,l⟩):=by
 obtain⟨A,c,wA,h1,h2,h3,h4⟩:=h;have hxA:=own_below hx h1;have hBA:B≤wA.heap.size:=Nat.le_trans hB h1.size;have hk:=KeptO.grown hxA h3 hBA;exact⟨⟨nm,nul,A,l.length,c⟩,by rw[List.length_append];exact h4,(KeptO.below h1 hB).trans hk,rfl,rfl,rfl,hk.2 _ _ _ _ _ _ (by decide) h2⟩
theorem AppN.step {wq w:World} {B:Nat} {xv v:Value} {li:List NRw} {r:NRw} (h:AppN wq B xv li r w v) (hx:wq.ownsRow B 128 4 xv li.length (li.flatMap encN)) (hB:B≤wq.heap.size):
  w.ownsRow B 128 4 v (li++ [r]).length ((li++ [r]).flatMap encN)∧KeptO 128 B wq w:=by
 obtain⟨wA,h1,h3,h4⟩:=h;have hxA:=own_below hx h1;exact⟨by rw[List.length_append];exact h4,(KeptO.below h1 hB).trans (KeptO.grown hxA h3 (Nat.le_trans hB h1.size))⟩
def allN (nm:ByteArray):NRw:=⟨nm,true,-9223372036854775808,9223372036854775807⟩
def zeroN (nm:ByteArray):NRw:=⟨nm,true,0,0⟩
def retB:ByteArray:=⟨#[114,101,116,117,114,110]⟩
def atB (c:S):ByteArray:=⟨#[64]⟩++strV c
def parN (ps:List Vr):List NRw:=ps.filterMap fun v=>if v.ptr then none else some (allN (strV v.nm))
def locN (ls:List Vr):List NRw:=ls.filterMap fun v=>if v.ptr then none else some (zeroN (strV v.nm))
def celN (cs:List S):List NRw:=cs.map fun c=>allN (atB c)
def entN (ps ls:List Vr) (cs:List S):List NRw:=parN ps++locN ls++celN cs++ [zeroN retB]
def parP (cs:List S) (ps:List Vr):List (ByteArray×Pz):=ps.filterMap fun v=>if v.ptr then some (strV v.nm,⟨true,canon cs⟩)else none
def locP (ls:List Vr):List (ByteArray×Pz):=ls.filterMap fun v=>if v.ptr then some (strV v.nm,⟨true,[]⟩)else none
def entP (ps ls:List Vr) (cs:List S):List (ByteArray×Pz):=parP cs ps++locP ls
end Go.Proofs.YtpndglghpojjkaaGreat
namespace Go.Proofs.YtpndglghpojjkaaGreat
section
variable {α:Type} (key:α→List UInt8)
def setL:List α→α→List α
 | [],x=> [x]
 |y::r,x=>if key y<key x then y::setL r x else if key y=key x then x::r else x::y::r
def aheadL:List α→α→Nat
 | [],_=>0
 |y::r,x=>if key y<key x then aheadL r x+1 else 0
theorem setL_cut:∀(l:List α) (x:α),setL key l x=l.take (aheadL key l x)++x::l.drop (aheadL key l x+(if ((l.drop (aheadL key l x)).head?.map key)=some (key x)then 1 else 0))
 | [],x=>by simp[setL,aheadL]
 |y::r,x=>by
  unfold setL aheadL;by_cases h:key y<key x
  ·rw[if_pos h,if_pos h,setL_cut r x];simp only[List.take_succ_cons,List.drop_succ_cons,List.cons_append];generalize (if Option.map key (List.drop (aheadL key r x) r).head? =some (key x)then 1 else 0)=c;rw[Nat.add_right_comm,List.drop_succ_cons]
  ·rw[if_neg h,if_neg h];by_cases h2:key y=key x
   ·simp[h2]
   ·simp[h2]
theorem mem_setL:∀{l:List α} {x z:α},z∈setL key l x→z=x∨z∈l
 | [],x,z,h=>by simp[setL]at h;exact .inl h
 |y::r,x,z,h=>by
  unfold setL at h;split at h
  ·rcases List.mem_cons.1 h with rfl|h1
   ·exact .inr (List.mem_cons_self ..)
   ·rcases mem_setL h1 with h2|h2
    ·exact .inl h2
    ·exact .inr (List.mem_cons_of_mem _ h2)
  ·split at h
   ·rcases List.mem_cons.1 h with h1|h1
    ·exact .inl h1
    ·exact .inr (List.mem_cons_of_mem _ h1)
   ·rcases List.mem_cons.1 h with h1|h1
    ·exact .inl h1
    ·exact .inr h1
theorem setL_new:∀(l:List α) (x:α),x∈setL key l x
 | [],x=>by simp[setL]
 |y::r,x=>by
  unfold setL;split
  ·exact List.mem_cons_of_mem _ (setL_new r x)
  ·split<;>exact List.mem_cons_self ..
theorem setL_old:∀{l:List α} {x z:α},z∈l→key z≠key x→z∈setL key l x
 |y::r,x,z,h,hne=>by
  unfold setL;split
  ·rcases List.mem_cons.1 h with rfl|h1
   ·exact List.mem_cons_self ..
   ·exact List.mem_cons_of_mem _ (setL_old h1 hne)
  ·split
   ·rename_i h2;rcases List.mem_cons.1 h with rfl|h1
    ·exact absurd h2 hne
    ·exact List.mem_cons_of_mem _ h1
   ·exact List.mem_cons_of_mem _ h
theorem setL_up:∀{l:List α} {x:α},(l.map key).Pairwise (·<·)→((setL key l x).map key).Pairwise (·<·)
 | [],x,_=>by simp[setL]
 |y::r,x,h=>by
  rw[List.map_cons,List.pairwise_cons]at h;unfold setL;split
  ·rename_i h1;rw[List.map_cons,List.pairwise_cons];refine⟨fun k hk=> ?_,setL_up h.2⟩;obtain⟨z,hz,rfl⟩:=List.mem_map.1 hk;rcases mem_setL key hz with rfl|h2
   ·exact h1
   ·exact h.1 _ (List.mem_map_of_mem h2)
  ·rename_i h1;split
   ·rename_i h2;rw[List.map_cons,List.pairwise_cons];exact⟨fun k hk=>h2▸h.1 k hk,h.2⟩
   ·rename_i h2;have h3:key x<key y:=bl_lt h1 (fun e=>h2 e.symm);rw[List.map_cons,List.map_cons,List.pairwise_cons,List.pairwise_cons];refine⟨fun k hk=> ?_,h⟩;rcases List.mem_cons.1 hk with rfl|h4
    ·exact h3
    ·exact List.lt_trans h3 (h.1 k h4)
theorem up_ext:∀{l l':List α},(l.map key).Pairwise (·<·)→(l'.map key).Pairwise (·<·)→(∀x,x∈l↔x∈l')→l=l'
 | [],[],_,_,_=>rfl
 | [],y::l',_,_,h=>by have:=(h y).2 (List.mem_cons_self ..);cases this
 |x::l,[],_,_,h=>by have:=(h x).1 (List.mem_cons_self ..);cases this
 |x::l,y::l',hu,hu',h=>by
  rw[List.map_cons,List.pairwise_cons]at hu hu'
  have e:x=y:=by
   rcases List.mem_cons.1 ((h x).1 (List.mem_cons_self ..))with e|e
   ·exact e
   ·rcases List.mem_cons.1 ((h y).2 (List.mem_cons_self ..))with e'|e'
    ·exact e'.symm
    ·exact absurd (List.lt_trans (hu.1 _ (List.mem_map_of_mem e')) (hu'.1 _ (List.mem_map_of_mem e))) (List.lt_irrefl _)
  subst e;congr 1;refine up_ext hu.2 hu'.2 fun z=>⟨fun hz=> ?_,fun hz=> ?_⟩
  ·rcases List.mem_cons.1 ((h z).1 (List.mem_cons_of_mem _ hz))with e|e
   ·subst e;exact absurd (hu.1 _ (List.mem_map_of_mem hz)) (List.lt_irrefl _)
   ·exact e
  ·rcases List.mem_cons.1 ((h z).2 (List.mem_cons_of_mem _ hz))with e|e
   ·subst e;exact absurd (hu'.1 _ (List.mem_map_of_mem hz)) (List.lt_irrefl _)
   ·exact e
end
end Go.Proofs.YtpndglghpojjkaaGreat
namespace Go.Proofs.YtpndglghpojjkaaGreat
open Go.RowKit Go.Deep
def memV (Ait:Option Addr) (nni ci:Nat) (Apt:Option Addr) (np cp:Nat):Value:= .agg #[.bool true,.slice Ait nni ci,.slice Apt np cp]
theorem Tryz.szMemS:(Tryz.prog.info? 56).map (·.size)=some 3:=by kernel_rfl
def kN (z:NRw):List UInt8:=nmB z.nm
def kP (z:PRw):List UInt8:=nmB z.nm
section
variable {α:Type} {enc:α→List Value} {kk:Nat}
theorem grow_at [Inhabited α] (hlen:∀x,(enc x).length=kk) (h0:0<kk) {w:World} {S:Nat→Prop} {A:Option Addr} {l:List α} (h:RowS w S A (l.flatMap enc)) {i:Nat} (hi:i<l.length):
  ∃b off,A=some ⟨b,off,none⟩∧b<w.heap.size∧∀c u,(enc l[i])[c]? =some u→w.cell? ⟨b,off+i*kk+c,none⟩=some u:=by
 have hg:∀c,c<kk→(l.flatMap enc)[i*kk+c]? =(enc l[i])[c]? :=fun c hc=>by
  have h1:=flatE_get (enc:=enc) (k:=kk) hlen h0 l (i*kk+c) (by
   have:=Nat.mul_le_mul_right kk (show i+1≤l.length from hi);rw[Nat.add_mul,Nat.one_mul]at this
   omega)
  have h2:(i*kk+c)/kk=i:=by rw[Nat.mul_comm,Nat.mul_add_div h0,Nat.div_eq_of_lt hc,Nat.add_zero]
  have h3:(i*kk+c)%kk=c:=by rw[Nat.mul_comm,Nat.mul_add_mod,Nat.mod_eq_of_lt hc]
  rw[h1,h2,h3]
  have h4:l.toArray[i]! =l[i]:=by simp[hi]
  have h5:c<(enc l[i]).length:=by rw[hlen];exact hc
  rw[h4,List.getElem?_eq_getElem h5,getElem!_pos _ c h5]
 have hne:l.flatMap enc≠[]:=fun e=>by
  have:=hg 0 h0;rw[e]at this
  have h5:0<(enc l[i]).length:=by rw[hlen];exact h0
  rw[List.getElem?_eq_getElem h5]at this;simp at this
 obtain⟨b,off,e,-,hc⟩:=h hne;refine⟨b,off,e,RowS.lt h hne e,fun c u hu=> ?_⟩
 have hcl:c<kk:=by rw[←hlen l[i]];exact(List.getElem?_eq_some_iff.1 hu).1
 rw[Nat.add_assoc];exact hc _ _ (by rw[hg c hcl];exact hu)
theorem rowS_take {w:World} {S:Nat→Prop} {A:Option Addr} {l:List α} (h:RowS w S A (l.flatMap enc)) (T:Nat):RowS w S A ((l.take T).flatMap enc):=fun hn=>by
 have e:l.flatMap enc=(l.take T).flatMap enc++(l.drop T).flatMap enc:=by rw[←List.flatMap_append,List.take_append_drop]
 obtain⟨b,off,e1,hS,hc⟩:=h (fun e2=>hn (by rw[e2]at e;exact(List.append_eq_nil_iff.1 e.symm).1));exact⟨b,off,e1,hS,fun j u hu=>hc j u (by rw[e,List.getElem?_append_left (List.getElem?_eq_some_iff.1 hu).1];exact hu)⟩
theorem rowS_drop (hlen:∀x,(enc x).length=kk) {w:World} {S:Nat→Prop} {A:Option Addr} {l:List α} (h:RowS w S A (l.flatMap enc)) (T:Nat) {c:Nat} (hc:l.length≤c):RowS w S (if c=T then A else A.map fun x=>x.add (T*kk)) ((l.drop T).flatMap enc):=fun hn=>by
 have hT:T<l.length:=by
  rcases Nat.lt_or_ge T l.length with h1|h1
  ·exact h1
  ·exact absurd (by rw[List.drop_eq_nil_of_le h1];rfl) hn
 have e:l.flatMap enc=(l.take T).flatMap enc++(l.drop T).flatMap enc:=by rw[←List.flatMap_append,List.take_append_drop]
 have e4:((l.take T).flatMap enc).length=T*kk:=by rw[flatE_len (k:=kk) hlen,List.length_take,Nat.min_eq_left (by omega)]
 obtain⟨b,off,rfl,hS,hcell⟩:=h (fun e2=>hn (by rw[e2]at e;exact(List.append_eq_nil_iff.1 e.symm).2));rw[if_neg (by omega)];refine⟨b,off+T*kk,by unfold Addr.add;simp only[Option.map_some];split<;>simp_all,hS,fun j u hu=> ?_⟩;rw[Nat.add_assoc];exact hcell (T*kk+j) u (by rw[e,List.getElem?_append_right (by omega),e4,Nat.add_sub_cancel_left];exact hu)
end
theorem own_rowS4 {w:World} {base:Nat} {e:TypeId} {v:Value} {n k:Nat} {xs:List Value} (h:w.ownsRow base e k v n xs):∃A c,v= .slice A n c∧n≤c∧n≤c:=by
 rcases h.2 with⟨rfl,rfl⟩| ⟨g,cap,cur,rfl,_,_,hn,_⟩
 ·exact⟨none,0,rfl,Nat.le_refl _,Nat.le_refl _⟩
 ·exact⟨_,cap,rfl,hn,hn⟩
theorem aheadL_le {α:Type} (key:α→List UInt8):∀(l:List α) (x:α),aheadL key l x≤l.length
 | [],_=>Nat.le_refl _
 |y::r,x=>by
  unfold aheadL;have:=aheadL_le key r x;split
  ·rw[List.length_cons];omega
  ·exact Nat.zero_le _
theorem aheadL_lt {α:Type} (key:α→List UInt8):∀(l:List α) (x:α) (k:Nat) (h:k<l.length),k<aheadL key l x→key l[k]<key x
 |y::r,x,k,h,hk=>by
  unfold aheadL at hk;split at hk
  ·rename_i h1
   cases k with
   |zero=>exact h1
   |succ k=>exact aheadL_lt key r x k (by simpa using h) (by omega)
  ·omega
theorem aheadL_stop {α:Type} (key:α→List UInt8):∀(l:List α) (x:α) (h:aheadL key l x<l.length),¬key l[aheadL key l x]<key x
 |y::r,x,h=>by
  by_cases h1:key y<key x
  ·have e:aheadL key (y::r) x=aheadL key r x+1:=by rw[aheadL,if_pos h1]
   have h2:aheadL key r x<r.length:=by rw[e]at h;simpa using h
   have:=aheadL_stop key r x h2;simpa[e]using this
  ·have e:aheadL key (y::r) x=0:=by rw[aheadL,if_neg h1]
   simpa[e]using h1
def SetPost (w0:World) (li:List NRw) (x:NRw) (Apt:Option Addr) (np cp:Nat) (e:Ending) (w':World):Prop:=
 ∃A c,e= .returned (memV A (setL kN li x).length c Apt np cp)∧w'.ownsRow w0.heap.size 128 4 (.slice A (setL kN li x).length c) (setL kN li x).length ((setL kN li x).flatMap encN)∧Below w0.heap.size w0 w'
theorem cut_len {α:Type} (key:α→List UInt8) (l:List α) (x:α) {T U:Nat} (hT:T=aheadL key l x) {b:Bool} (hb:b=decide ((l.drop T).head?.map key=some (key x))) (hU:U=T+(if b then 1 else 0)):U≤l.length∧setL key l x=l.take T++x::l.drop U:=by
 have h1:=aheadL_le key l x;rw[←hT]at h1;constructor
 ·cases b with
  |false=>simp at hU;omega
  |true=>
   have h2:(l.drop T).head?.map key=some (key x):=of_decide_eq_true hb.symm
   have h3:T<l.length:=by
    rcases Nat.lt_or_ge T l.length with h4|h4
    ·exact h4
    ·rw[List.drop_eq_nil_of_le h4]at h2;simp at h2
   simp at hU;omega
 ·rw[setL_cut,←hT,hU,hb];by_cases h2:(l.drop T).head?.map key=some (key x)
  ·simp only[h2,decide_true,if_true]
  ·simp only[h2,decide_false,if_false,Bool.false_eq_true]
theorem setN_any (w0:World) (Ait Apt:Option Addr) (ci np cp:Nat) (li:List NRw) (hr:RowS w0 Evr Ait (li.flatMap encN)) (hn:li.length≤100) (hci:li.length≤ci) (sx:ByteArray) (lo hi:Int) (hlh:lo≤hi):
  Calls Tryz.prog 75 #[memV Ait li.length ci Apt np cp,.string sx,.agg #[.bool true,.int .i64 lo,.int .i64 hi]] w0 (SetPost w0 li ⟨sx,true,lo,hi⟩ Apt np cp):=by
 obtain⟨iNm,hiN,hzN0,hzN1,hzN2⟩:=info_parts Tryz.clNamed;obtain⟨nni,hni⟩:∃y,y=li.length:=⟨_,rfl⟩;rw[←hni]at hn hci;rw[←hni];have hn':=zi hni;obtain⟨W1,hW1⟩:∃y,y=((w0.alloc (.cells #[.bool true,.slice Ait nni ci,.slice Apt np cp] 56)).alloc (.cells #[.bool true,.int .i64 lo,.int .i64 hi] 115)).alloc (.cells #[.bool false,.slice none 0 0,.slice none 0 0] 56):=⟨_,rfl⟩;have k1:=below_new w0 (.cells #[.bool true,.slice Ait nni ci,.slice Apt np cp] 56);have k2:=below_new (w0.alloc (.cells #[.bool true,.slice Ait nni ci,.slice Apt np cp] 56)) (.cells #[.bool true,.int .i64 lo,.int .i64 hi] 115);have k3:=below_new ((w0.alloc (.cells #[.bool true,.slice Ait nni ci,.slice Apt np cp] 56)).alloc (.cells #[.bool true,.int .i64 lo,.int .i64 hi] 115)) (.cells #[.bool false,.slice none 0 0,.slice none 0 0] 56);have hb1:=(k1.trans (k2.mono k1.size)).trans (k3.mono (Nat.le_trans k1.size k2.size));have hHm:=((Holds.new w0 56 #[.bool true,.slice Ait nni ci,.slice Apt np cp]).alloc (.cells #[.bool true,.int .i64 lo,.int .i64 hi] 115)).alloc (.cells #[.bool false,.slice none 0 0,.slice none 0 0] 56)
 have hHv:=(Holds.new (w0.alloc (.cells #[.bool true,.slice Ait nni ci,.slice Apt np cp] 56)) 115 #[.bool true,.int .i64 lo,.int .i64 hi]).alloc (.cells #[.bool false,.slice none 0 0,.slice none 0 0] 56);have hHr:=Holds.new ((w0.alloc (.cells #[.bool true,.slice Ait nni ci,.slice Apt np cp] 56)).alloc (.cells #[.bool true,.int .i64 lo,.int .i64 hi] 115)) 56 #[.bool false,.slice none 0 0,.slice none 0 0];rw[show(w0.alloc (.cells #[.bool true,.slice Ait nni ci,.slice Apt np cp] 56)).heap.size=w0.heap.size+1 by simp]at hHv;rw[show((w0.alloc (.cells #[.bool true,.slice Ait nni ci,.slice Apt np cp] 56)).alloc (.cells #[.bool true,.int .i64 lo,.int .i64 hi] 115)).heap.size=w0.heap.size+2 by simp]at hHr;rw[←hW1]at hb1 hHm hHv hHr;obtain⟨gm,hgm⟩:∃y,y=w0.heap.size:=⟨_,rfl⟩;obtain⟨gv,hgv⟩:∃y,y=w0.heap.size+1:=⟨_,rfl⟩;obtain⟨gr,hgr⟩:∃y,y=w0.heap.size+2:=⟨_,rfl⟩;rw[←hgm]at hHm;rw[←hgv]at hHv;rw[←hgr]at hHr;have hgm':=zi hgm.symm;have hgv':Hid (gm+1=gv):=zi (by omega);have hgr':Hid (gv+1=gr):=zi (by omega);have hr0:=zi hr;have hb1:=zi hb1;have hfo:=zi hW1.symm
 clear hni hr k1 k2 k3 hgm hgv hgr hW1;unfold memV;go_enter Tryz.func75,Tryz.ntmps75;go_upto_region 1 with(fail);rw[hfo.out,hgm'.out,hgv'.out,hgr'.out];have z0:=(fact_of hHv 0 rfl).2;have z1:=(fact_of hHv 1 rfl).2;have z2:=(fact_of hHv 2 rfl).2;have hHm:=zi hHm;have hHv:=zi hHv;have hHr:=zi hHr;clear hfo;go_wp2_with fail;refine(show Calls Tryz.prog 115 #[.agg #[.bool true,.int .i64 lo,.int .i64 hi]] W1 fun e w'=>e= .returned (.agg #[.bool true,.int .i64 lo,.int .i64 hi])∧Below W1.heap.size W1 w' from refNorm_any W1 lo hi hlh).mono ?_;rintro e w2 ⟨rfl,hb2⟩;clear z0 z1 z2;have hHm2:=zi (hHm.out.below hb2 hHm.out.lt);have hHv2:=hHv.out.below hb2 hHv.out.lt;have hHr2:=zi (hHr.out.below hb2 hHr.out.lt);have z0:=(fact_of hHv2 0 rfl).2;have z1:=(fact_of hHv2 1 rfl).2;have z2:=(fact_of hHv2 2 rfl).2;have f0:=hHv2.frozen 0;have f1:=hHv2.frozen 1;have f2:=hHv2.frozen 2;have hst:=writes_three w2 gv (.bool true) (.int .i64 lo) (.int .i64 hi);have hHv3:=holds_three hHv2 (.bool true) (.int .i64 lo) (.int .i64 hi)
 obtain⟨w3,hw3⟩:∃y,y=((w2.setCell ⟨gv,0,none⟩ (.bool true)).setCell ⟨gv,1,none⟩ (.int .i64 lo)).setCell ⟨gv,2,none⟩ (.int .i64 hi):=⟨_,rfl⟩;rw[←hw3]at hst hHv3;have hHm3:Hid (Holds w3 gm 56 #[.bool true,.slice Ait nni ci,.slice Apt np cp]):=zi (hst.holds hHm2.out (by simp;have:=hgv'.out;omega));have hHr3:Hid (Holds w3 gr 56 #[.bool false,.slice none 0 0,.slice none 0 0]):=zi (hst.holds hHr2.out (by simp;have:=hgr'.out;omega));have hHv3:=zi hHv3;have hbw3:Hid (Below w0.heap.size w0 w3):=zi ((hb1.out.trans (hb2.mono hb1.out.size)).trans (hst.below (Nat.le_trans hb1.out.size hb2.size) (fun j hj=>by simp at hj;have:=hgm'.out;have:=hgv'.out;omega)));have hw3':=zi hw3.symm;clear hw3;go_upto_region 2 with(fail);rw[hw3'.out];clear z0 z1 z2 f0 f1 f2 hHv2 hst;have m0:=(fact_of hHm3.out 0 rfl).2;have m1:=(fact_of hHm3.out 1 rfl).2;have v0:=(fact_of hHv3.out 0 rfl).2;obtain⟨T,hT0⟩:∃y,y=aheadL kN li ⟨sx,true,lo,hi⟩:=⟨_,rfl⟩
 have hTn:T≤nni:=by rw[hT0,hn'.out];exact aheadL_le _ _ _
 have hT:=zi hT0;clear hT0;have hr3:Hid (RowS w3 Evr Ait (li.flatMap encN)):=zi (hr0.out.up hbw3.out);go_wp2_with fail
 go_loop [7] (fun i=>∃k:Nat,k≤T∧i= .int .i64 k) (fun i=>T-(intOf i).toNat)
 case atStart=>exact⟨0,by omega,rfl⟩
 obtain⟨k,hk,rfl⟩:=hrel;by_cases hlt:k<T
 ·have hkl:k<li.length:=by rw[←hn'.out];omega
  have hkn:k<nni:=by omega
  have hkz:(k:Int)<(nni:Int):=by omega
  obtain⟨b,off,rfl,q,hqc⟩:=grow_at (enc:=encN) (kk:=4) (fun _=>rfl) (by decide) hr3.out hkl;have q0:w3.cell? ⟨b,off+k*4,none⟩=some (.string li[k].nm):=hqc 0 _ rfl;have hl0:nmB li[k].nm<nmB sx:=aheadL_lt kN li ⟨sx,true,lo,hi⟩ k hkl (by rw[←hT.out];exact hlt);clear hqc;generalize li[k].nm=sk at q0 hl0
  have hl1:Op.bytesLess sk.toList sx.toList=true:=by rw[Go.Proofs.bytesLess_eq,ByteArray.toList_eq,ByteArray.toList_eq];exact decide_eq_true hl0
  go_wp2_with fail;refine⟨⟨k+1,by omega,by go_num⟩,?_⟩;simp[intOf];omega
 have hkT:k=T:=by omega
 have hTz:(T:Int)≤(ci:Int):=by omega
 have hstop:Hid (∀h:T<li.length,¬nmB li[T].nm<nmB sx):=zi (by
  have h1:=hT.out;subst h1
  exact fun h=>aheadL_stop kN li ⟨sx,true,lo,hi⟩ h)
 have hlA:Hid (((li.take T).flatMap encN).length=T*4):=zi (by rw[flatE_len (k:=4) (fun _=>rfl),List.length_take,Nat.min_eq_left (by rw[←hn'.out];exact hTn)])
 have hoA:Hid (∀u∈(li.take T).flatMap encN,u.oneCell'=true):=zi (by
  intro u hu;obtain⟨z,-,hz⟩:=List.mem_flatMap.1 hu
  exact encN_one z u hz)
 have hrA:Hid (RowS w3 Evr Ait ((li.take T).flatMap encN)):=zi (rowS_take hr3.out T);have hlq:Hid (∀h:T<li.length,Op.bytesLess li[T].nm.toList sx.toList=false):=zi (fun h=>by rw[Go.Proofs.bytesLess_eq,ByteArray.toList_eq,ByteArray.toList_eq];exact decide_eq_false (hstop.out h));rw[hkT];clear hk hlt hkT;go_upto_region 5 with(fail);go_cut [34] (fun v wc=>v= .bool false∧w3=wc)
 case' first=>
  by_cases hTn2:T<nni
  ·have hTz3:(T:Int)<(nni:Int):=by omega
   have hTl:T<li.length:=by rw[←hn'.out];exact hTn2
   obtain⟨b,off,rfl,q,hqc⟩:=grow_at (enc:=encN) (kk:=4) (fun _=>rfl) (by decide) hr3.out hTl;have q0:w3.cell? ⟨b,off+T*4,none⟩=some (.string li[T].nm):=hqc 0 _ rfl;have hl1:=hlq.out hTl;clear hqc;generalize li[T].nm=sk at q0 hl1;go_wp2_with fail
   go_meet
   case rel=>exact⟨rfl,rfl⟩
  ·have hTz2:¬(T:Int)<(nni:Int):=by omega
   go_wp2_with fail
   go_meet
   case rel=>exact⟨rfl,rfl⟩
 case' rest=>
  obtain⟨rfl,rfl⟩:=hcut;go_upto_region 8 with
   (at_builtin
    go_loud (refine wpList_append_rowS rfl (.const (.slice none 0 0)) (.tmp 40) 53 rfl w3.heap.size 128 iNm _ 4 40 rfl hiN hzN0 hzN1 hzN2 rfl (by omega) (.slice none 0 0) 0 [] rfl (World.ownsRow_nil _ _ _ _) Ait T ci ((li.take T).flatMap encN) rfl hlA.out hrA.out hoA.out (by unfold maxLen;omega) (by omega) (Nat.le_refl _) ?_)
    go_loud (
     intro v8 w8 ho8 hg8 _;have hO8:=zi ho8;have hb8:Hid (Below w3.heap.size w3 w8):=zi ⟨hg8.os,hg8.tape,hg8.output,hg8.size,fun k hk=>hg8.block k hk (by simp[Value.ownBlock])⟩
     clear ho8 hg8))
  have hO8':Hid (w8.ownsRow w3.heap.size 128 4 v8 T ((li.take T).flatMap encN)):=zi (by have:=hO8.out;rw[Nat.zero_add,List.nil_append]at this;exact this);have hHm8:=zi (hHm3.out.below hb8.out hHm3.out.lt);have hHv8:=hHv3.out.below hb8.out hHv3.out.lt;have hHr8:=zi (hHr3.out.below hb8.out hHr3.out.lt);have v0:=(fact_of hHv8 0 rfl).2;have v1:=(fact_of hHv8 1 rfl).2;have v2:=(fact_of hHv8 2 rfl).2;have hbn:=below_new w8 (.cells #[.string sx,.bool true,.int .i64 lo,.int .i64 hi] 128);have hO9:=zi (own_below hO8'.out hbn);have hrw:=zi (rowS_holds (cs:= [.string sx,.bool true,.int .i64 lo,.int .i64 hi]) (Holds.new w8 128 #[.string sx,.bool true,.int .i64 lo,.int .i64 hi]));have hone:Hid (∀u∈([.string sx,.bool true,.int .i64 lo,.int .i64 hi]:List Value),u.oneCell'=true):=zi (by intro u hu;simp at hu;rcases hu with rfl|rfl|rfl|rfl<;>rfl);have hbs:=zi (Nat.le_trans hb8.out.size hbn.size);have hkq:=zi (hb8.out.trans (hbn.mono hb8.out.size));have hHv8:=zi hHv8;clear hO8 hbn;go_upto_region 9 with
   (at_builtin
    go_loud (refine wpList_append_rowS rfl (.tmp 42) (.tmp 46) 53 rfl w3.heap.size 128 iNm _ 4 40 rfl hiN hzN0 hzN1 hzN2 rfl (by omega) v8 T ((li.take T).flatMap encN) rfl hO9.out (some ⟨w8.heap.size,0,none⟩) 1 1 [.string sx,.bool true,.int .i64 lo,.int .i64 hi] rfl rfl hrw.out hone.out (by unfold maxLen;omega) (by omega) hbs.out ?_)
    go_loud (
     intro v9 w9 ho9 hg9 _;have hO10:=zi ho9;have hk9:=zi (KeptO.grown hO9.out hg9 hbs.out)
     clear ho9 hg9))
  have hb9:=zi (hkq.out.trans hk9.out.1);have hO10':Hid (w9.ownsRow w3.heap.size 128 4 v9 (T+1) ((li.take T).flatMap encN++ [.string sx,.bool true,.int .i64 lo,.int .i64 hi])):=zi hO10.out;have hHm9:=zi (hHm3.out.below hb9.out hHm3.out.lt);have hHr9:=zi (hHr3.out.below hb9.out hHr3.out.lt);have hr9:Hid (RowS w9 Evr Ait (li.flatMap encN)):=zi (hr3.out.up (hb9.out.mono (Nat.le_refl _)));clear hO10 hO9 hO8' hrw hone hbs hkq hk9 hHv8 hHm8 hHr8 v0 v1 v2 m0;have m1:=(fact_of hHm9.out 1 rfl).2;obtain⟨bq,hbq0⟩:∃y,y=decide ((li.drop T).head?.map kN=some (kN ⟨sx,true,lo,hi⟩)):=⟨_,rfl⟩;have hbq:=zi hbq0;clear hbq0;go_cut [62] (fun v wc=>v= .bool bq∧w9=wc)
  case' first=>
   by_cases hTn2:T<nni
   ·have hTz3:(T:Int)<(nni:Int):=by omega
    have hTl:T<li.length:=by rw[←hn'.out];exact hTn2
    have hb2:Hid (bq=(li[T].nm.toList==sx.toList)):=zi (by
     rw[hbq.out,List.head?_drop,List.getElem?_eq_getElem hTl,ByteArray.toList_eq,ByteArray.toList_eq,Bool.eq_iff_iff]
     simp[kN,nmB])
    obtain⟨b,off,rfl,q,hqc⟩:=grow_at (enc:=encN) (kk:=4) (fun _=>rfl) (by decide) hr9.out hTl;have q0:w9.cell? ⟨b,off+T*4,none⟩=some (.string li[T].nm):=hqc 0 _ rfl;clear hqc;generalize li[T].nm=sk at q0 hb2;go_wp2_with fail
    go_meet
    case rel=>exact⟨congrArg Value.bool hb2.out.symm,rfl⟩
   ·have hTz2:¬(T:Int)<(nni:Int):=by omega
    have hb2:Hid (bq=false):=zi (by
     rw[hbq.out,List.drop_eq_nil_of_le (by rw[←hn'.out];omega)]
     simp)
    go_wp2_with fail
    go_meet
    case rel=>exact⟨congrArg Value.bool hb2.out.symm,rfl⟩
  case' rest=>
   obtain⟨rfl,rfl⟩:=hcut;obtain⟨U,hU0⟩:∃y,y=T+(if bq then 1 else 0):=⟨_,rfl⟩;have hcl:=zi (cut_len kN li ⟨sx,true,lo,hi⟩ hT.out hbq.out hU0)
   have hUn:U≤nni:=by rw[hn'.out];exact hcl.out.1
   have hU:=zi hU0;clear hU0
   go_upto_if 62 with(fail)
   go_cut [7] (fun v wc=>v= .int .i64 U∧w9=wc)
   case' first=>
    cases hb:bq with
    |true=>
     have hUz:Hid ((T:Int)+1=U):=zi (by have h:=hU.out;rw[hb]at h;simp at h;omega);go_wp2_with fail
     go_meet
     case rel=>exact⟨congrArg (Value.int .i64) hUz.out,rfl⟩
    |false=>
     have hUz:Hid ((T:Int)=U):=zi (by have h:=hU.out;rw[hb]at h;simp at h;omega);go_wp2_with fail
     go_meet
     case rel=>exact⟨congrArg (Value.int .i64) hUz.out,rfl⟩
   case' rest=>
    obtain⟨rfl,rfl⟩:=hcut
    have hcutz:(U:Int)≤(nni:Int):=by omega
    have z1:=(fact_of hHm9.out 1 rfl).2;have f1:=hHm9.out.frozen 1;have hl3:Hid (((li.drop U).flatMap encN).length=(nni-U)*4):=zi (by rw[flatE_len (k:=4) (fun _=>rfl),List.length_drop,←hn'.out]);have hr9':Hid (RowS w9 Evr (if ci=U then Ait else Ait.map fun x=>x.add (U*4)) ((li.drop U).flatMap encN)):=zi (rowS_drop (enc:=encN) (kk:=4) (fun _=>rfl) hr9.out U (by rw[←hn'.out];exact hci))
    have ho3:Hid (∀u∈(li.drop U).flatMap encN,u.oneCell'=true):=zi (by
     intro u hu;obtain⟨z,-,hz⟩:=List.mem_flatMap.1 hu
     exact encN_one z u hz)
    go_upto_region 12 with
     (at_builtin
      go_loud (refine wpList_append_rowS rfl (.tmp 65) (.tmp 69) 53 rfl w3.heap.size 128 iNm _ 4 40 rfl hiN hzN0 hzN1 hzN2 rfl (by omega) v9 (T+1) _ rfl hO10'.out _ _ _ ((li.drop U).flatMap encN) rfl hl3.out hr9'.out ho3.out (by unfold maxLen;omega) (by omega) hb9.out.size ?_)
      go_loud (
       intro v11 w11 ho11 hg11 _;have hO11:=zi ho11;have hk11:=KeptO.grown hO10'.out hg11 hb9.out.size;have hb11:=zi (hb9.out.trans hk11.1);have hHm11:=hHm3.out.below hb11.out hHm3.out.lt;have y1:=(fact_of hHm11 1 rfl).2;have y2:=hHm11.frozen 1;obtain⟨Ax,cx,rfl,-,-⟩:=own_rowS4 ho11;have hHm11:=zi hHm11
       clear ho11 hg11 hk11))
    obtain⟨M,hM0⟩:∃y,y=T+1+(nni-U):=⟨_,rfl⟩;rw[←hM0];have hM:=zi hM0;clear y1 y2 hM0;have hst12:=Writes.store w11 (M:= [some gm]) (p:=⟨gm,1,none⟩) (by simp) (.slice Ax M cx)
    have hHm12:Holds (w11.setCell ⟨gm,1,none⟩ (.slice Ax M cx)) gm 56 #[.bool true,.slice Ax M cx,.slice Apt np cp]:=by have:=hHm11.out.store 1 (.slice Ax M cx);simpa using this
    have hHr12:=hst12.holds (hHr3.out.below hb11.out hHr3.out.lt) (by simp;have:=hgv'.out;have:=hgr'.out;omega);have hO12:=own_kept hO11.out hst12 (fun j hj=>by simp at hj;have:=hHm3.out.lt;omega);obtain⟨w12,hw12⟩:∃y,y=w11.setCell ⟨gm,1,none⟩ (.slice Ax M cx):=⟨_,rfl⟩;rw[←hw12]at hst12 hHm12 hHr12 hO12;rw[←hw12];replace hw12:=zi hw12;have y0:=(fact_of hHm12 0 rfl).2;have y1:=(fact_of hHm12 1 rfl).2;have y2:=(fact_of hHm12 2 rfl).2;have f0:=hHr12.frozen 0;have f1:=hHr12.frozen 1;have f2:=hHr12.frozen 2;have q0:=(fact_of hHr12 0 rfl).2;have q1:=(fact_of hHr12 1 rfl).2;have q2:=(fact_of hHr12 2 rfl).2;have x0:=hHr12.lt;have x1:=hHm12.lt;have hsr:=writes_three w12 gr (.bool true) (.slice Ax M cx) (.slice Apt np cp);have hHr13:=zi (holds_three hHr12 (.bool true) (.slice Ax M cx) (.slice Apt np cp))
    have hfin:Hid (SetPost w0 li ⟨sx,true,lo,hi⟩ Apt np cp (.returned (.agg #[.bool true,.slice Ax M cx,.slice Apt np cp])) (((w12.setCell ⟨gr,0,none⟩ (.bool true)).setCell ⟨gr,1,none⟩ (.slice Ax M cx)).setCell ⟨gr,2,none⟩ (.slice Apt np cp))):=zi (by
     have e1:setL kN li ⟨sx,true,lo,hi⟩=li.take T++⟨sx,true,lo,hi⟩::li.drop U:=hcl.out.2
     have e2:(setL kN li ⟨sx,true,lo,hi⟩).length=M:=by have h1:=hM.out;have h2:=hn'.out;rw[e1,List.length_append,List.length_cons,List.length_take,List.length_drop];omega
     have e3:(setL kN li ⟨sx,true,lo,hi⟩).flatMap encN=((li.take T).flatMap encN++ [.string sx,.bool true,.int .i64 lo,.int .i64 hi])++(li.drop U).flatMap encN:=by rw[e1,List.flatMap_append,List.flatMap_cons,List.append_assoc];rfl
     have b3:=hbw3.out.trans (hb11.out.mono hbw3.out.size);have b12:=b3.trans (hst12.below b3.size fun j hj=>by simp at hj;have:=hgm'.out;omega);have hO13:=own_base (own_kept hO12 hsr fun j hj=>by simp at hj;have:=hHr3.out.lt;omega) hbw3.out.size;rw[←hM.out]at hO13;have hbz:=b12.trans (hsr.below b12.size fun j hj=>by simp at hj;have:=hgm'.out;have:=hgv'.out;have:=hgr'.out;omega);unfold SetPost;rw[e2,e3]
     exact⟨Ax,cx,rfl,hO13,hbz⟩)
    clear hHm12 hHr12 hO12 hst12 hsr;go_wp2_with fail
    all_goals exact ret_cellO rfl rfl (by simp) hHr13.out Tryz.underlying56 Tryz.szMemS hfin.out
end Go.Proofs.YtpndglghpojjkaaGreat
