/-
  A block of strings and slices is none that a function's parts lie in.
-/
import Derived.Test.YtpndglghpojjkaaGreatPua9
import Derived.Test.YtpndglghpojjkaaGreatPua4
set_option maxRecDepth 1000000
set_option maxHeartbeats 8000000

namespace Go.Proofs.YtpndglghpojjkaaGreat
open Go.RowKit

section
variable {w:World} {N:Nat}
structure NoN (w:World) (N:Nat):Prop where
 e:∀g cs,Holds w g 205 cs→g≠N
 c:∀g cs,Holds w g 213 cs→g≠N
 v:∀i v,w.cell? ⟨N,i,none⟩=some v→(∀k n,v≠.int k n)∧∀b,v≠.bool b
theorem NoN.of {a b c d:Value} {s:ByteArray} {A1 A2 A3:Option Addr} {n1 n2 n3 c1 c2 c3:Nat} (ha:a= .string s) (hb:b= .slice A1 n1 c1) (hc:c= .slice A2 n2 c2) (hd:d= .slice A3 n3 c3) (h:Holds w N 26 #[a,b,c,d]):NoN w N:=by
 subst ha hb hc hd;refine⟨fun g cs hg e=> ?_,fun g cs hg e=> ?_,fun i v hv=> ?_⟩
 ·subst e;have:=hg.symm.trans h;simp at this
 ·subst e;have:=hg.symm.trans h;simp at this
 ·rw[h.cell i]at hv;rcases(show i=0∨i=1∨i=2∨i=3∨4≤i by omega)with rfl|rfl|rfl|rfl|h4
  ·simp at hv;subst hv;exact⟨fun _ _ h=>(nomatch h),fun _ h=>(nomatch h)⟩
  ·simp at hv;subst hv;exact⟨fun _ _ h=>(nomatch h),fun _ h=>(nomatch h)⟩
  ·simp at hv;subst hv;exact⟨fun _ _ h=>(nomatch h),fun _ h=>(nomatch h)⟩
  ·simp at hv;subst hv;exact⟨fun _ _ h=>(nomatch h),fun _ h=>(nomatch h)⟩
  ·rw[Array.getElem?_eq_none (by simpa using h4)]at hv;cases hv
theorem NoN.of3 {c1 c2 c3 n1 n2 n3:Nat} {A1 A2 A3:Option Addr} (h:Holds w N 97 #[.slice A1 n1 c1,.slice A2 n2 c2,.slice A3 n3 c3]):NoN w N:=by
 refine⟨fun g cs hg e=> ?_,fun g cs hg e=> ?_,fun i v hv=> ?_⟩
 ·subst e;have:=hg.symm.trans h;simp at this
 ·subst e;have:=hg.symm.trans h;simp at this
 ·rw[h.cell i]at hv;rcases(show i=0∨i=1∨i=2∨3≤i by omega)with rfl|rfl|rfl|h4
  ·simp at hv;subst hv;exact⟨fun _ _ h=>(nomatch h),fun _ h=>(nomatch h)⟩
  ·simp at hv;subst hv;exact⟨fun _ _ h=>(nomatch h),fun _ h=>(nomatch h)⟩
  ·simp at hv;subst hv;exact⟨fun _ _ h=>(nomatch h),fun _ h=>(nomatch h)⟩
  ·rw[Array.getElem?_eq_none (by simpa using h4)]at hv;cases hv
theorem bI.not_ (H:NoN w N) {A:Option Addr} {vs:List Value} (h:bI w Evr A vs) (hx:vs≠[]→∃(j:Nat) (u:Value),vs[j]? =some u∧((∃k n,u=Value.int k n)∨∃b,u=Value.bool b)):bI w (·≠N) A vs:=fun hn=>by
 obtain⟨b,off,e,-,hc⟩:=h hn;obtain⟨j,u,hj,hu⟩:=hx hn;refine⟨b,off,e,fun hb=> ?_,hc⟩;have h1:=hc j u hj;rw[hb]at h1;have h2:=H.v _ _ h1;rcases hu with⟨k,n,hu⟩| ⟨x,hu⟩
 ·exact h2.1 k n hu
 ·exact h2.2 x hu
theorem aJ.not_ (H:NoN w N):∀{e:Ex} {v:Value},aJ w Evr e v→aJ w (·≠N) e v
 | .nil,_,h=>h
 | .mk _ _ _ _ _,_,h=>by obtain⟨g,va,vb,e,-,hn,hk,hH,ha,hb⟩:=h;exact⟨g,va,vb,e,H.e g _ hH,hn,hk,hH,ha.not_ H,hb.not_ H⟩
theorem bC.not_ (H:NoN w N):∀{e:Cn} {v:Value},bC w Evr e v→bC w (·≠N) e v
 | .nil,_,h=>h
 | .mk _ _ _ _ _ _,_,h=>by obtain⟨g,va,vb,vp,vq,e,-,hn,hk,hH,ha,hb,hp,hq⟩:=h;exact⟨g,va,vb,vp,vq,e,H.c g _ hH,hn,hk,hH,ha.not_ H,hb.not_ H,hp.not_ H,hq.not_ H⟩
theorem aW.not_ (H:NoN w N):∀{l:List Ag} {vs:List Value},aW w Evr l vs→aW w (·≠N) l vs
 | [],_,h=>h
 |_::_,_,h=>by obtain⟨ve,vs',e,hn,he,hr⟩:=h;exact⟨ve,vs',e,hn,he.not_ H,hr.not_ H⟩
theorem aZ.not_ (H:NoN w N) {l:List Ag} {v:Value} (h:aZ w Evr l v):aZ w (·≠N) l v:=by
 obtain⟨A,c,vs,e,h1,hc,h2,h3⟩:=h;refine⟨A,c,vs,e,h1,hc,h2.not_ H fun hn=> ?_,h3.not_ H⟩
 cases l with
 |nil=>exact absurd h3 hn
 |cons a l=>
  obtain⟨ve,vs',e,-⟩:=h3;exact⟨0,_,by rw[e];rfl,.inr ⟨_,rfl⟩⟩
theorem dn.not_ (H:NoN w N) {h:Hd} {ve vf vc va:Value} (x:dn w Evr h ve vf vc va):dn w (·≠N) h ve vf vc va:=⟨x.e.not_ H,x.f.not_ H,x.c.not_ H,x.a.not_ H,x.x,x.y,x.k,x.at_⟩
theorem sl_row (H:NoN w N) {S:Nat→Prop} {l:Sl} {A:Option Addr} {us:List Value} (h:bI w Evr A us) (h2:aN w S l us):bI w (·≠N) A us:=h.not_ H fun hn=>by
 cases l with
 |nil=>exact absurd h2 hn
 |cons x t e r=>
  obtain⟨ve,vf,vc,va,vt,vl,vs',e,-⟩:=h2;exact⟨0,.int .i64 x.k,by rw[e];rfl,.inl ⟨_,_,rfl⟩⟩
theorem aN.not_ (H:NoN w N):∀{l:Sl} {vs:List Value},aN w Evr l vs→aN w (·≠N) l vs
 | .nil,_,h=>h
 | .cons _ _ _ _,_,h=>by obtain⟨ve,vf,vc,va,vt,vl,vs',e,hH,⟨A,c,us,e1,l1,l2,r1,t1⟩,⟨A',c',us',e2,l3,l4,r2,t2⟩,hr⟩:=h;exact⟨ve,vf,vc,va,vt,vl,vs',e,hH.not_ H,⟨A,c,us,e1,l1,l2,sl_row H r1 t1,aN.not_ H t1⟩,⟨A',c',us',e2,l3,l4,sl_row H r2 t2,aN.not_ H t2⟩,aN.not_ H hr⟩
theorem bY.not_ (H:NoN w N) {l:List Vr} {v:Value} (h:bY w Evr l v):bY w (·≠N) l v:=by
 obtain⟨A,c,e,h1,h2,h3,h4⟩:=h;refine⟨A,c,e,h1,h2,h3.not_ H fun hn=> ?_,h4⟩
 cases l with
 |nil=>exact absurd rfl hn
 |cons a l=>exact⟨1,.bool a.ptr,rfl,.inr ⟨_,rfl⟩⟩
theorem eP.not_ (H:NoN w N) {f:Fnc} {vp vl vb:Value} (h:eP w Evr f vp vl vb):eP w (·≠N) f vp vl vb:=by
 obtain⟨A,c,us,e,l1,l2,r1,t1⟩:=h.body;exact⟨h.nm,h.ps.not_ H,h.ls.not_ H,⟨A,c,us,e,l1,l2,sl_row H r1 t1,t1.not_ H⟩⟩
theorem eP.stored (H:NoN w N) {w':World} (hW:Writes [some N] w w') {f:Fnc} {vp vl vb:Value} (h:eP w Evr f vp vl vb):eP w' Evr f vp vl vb:=
 ((h.not_ H).keep fun x hx hS=>hW.block x hx (by simpa using hS)).mono fun _ _ _=>trivial
end
end Go.Proofs.YtpndglghpojjkaaGreat
