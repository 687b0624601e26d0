/-
  3 texts of the proof, in one file: no condition.
-/
import Derived.Test.YtpndglghpojjkaaGreatPua5
set_option maxRecDepth 1000000
set_option maxHeartbeats 8000000
namespace Go.Proofs.YtpndglghpojjkaaGreat
open Go.RowKit Go.Deep
theorem Sl.lU (h:Hd) (t e r:Sl):(Sl.cons h t e r).dep=max (max (t.dep+1) (e.dep+1)) r.dep:=rfl
theorem uP:∀(l:Sl) (k:Nat) (hk:k<l.elems.length),l.elems[k].2.1.dep<l.dep∧l.elems[k].2.2.dep<l.dep
 | .nil,k,hk=>absurd hk (by simp[Sl.elems])
 | .cons h t e r,0,_=>by
  show t.dep<(Sl.cons h t e r).dep∧e.dep<(Sl.cons h t e r).dep;rw[Sl.lU];omega
 | .cons h t e r,k+1,hk=>by
  have hk2:k<r.elems.length:=by simpa[Sl.elems]using hk
  have ih:=uP r k hk2;show r.elems[k].2.1.dep<(Sl.cons h t e r).dep∧r.elems[k].2.2.dep<(Sl.cons h t e r).dep;rw[Sl.lU];omega
structure Cb (W:World) (Z:World→Prop) (l6 l9:Bool) (w:World):Prop where
 o:l9=true→l6=true
 a:l6=false→w=W
 c:l9=true→Z w
structure FD (W:World) (P:World→Prop) (l5:Bool) (w:World):Prop where
 a:l5=false→w=W
 c:l5=true→P w
structure LS (m:Nat) (K:List UInt8→Nat) (r g n:Nat) (S:Nat→Prop) (f:Nat→Hd×Sl×Sl) (w0 w:World):Prop where
 row:∃cs,jT w S g n f cs
 rs:Rsv m K r w0 w
 gS:¬S g
 rg:r<g
 mg:m<g
 wr:w0.heap.size≤r
section
variable {m r g n:Nat} {K:List UInt8→Nat} {S:Nat→Prop} {f f':Nat→Hd×Sl×Sl} {w0 w w':World}
theorem LS.below (h:LS m K r g n S f w0 w) (hb:Below w.heap.size w w'):LS m K r g n S f w0 w':=by
 obtain⟨cs,hr⟩:=h.row;exact⟨⟨cs,hr.below hb⟩,h.rs.below hb,h.gS,h.rg,h.mg,h.wr⟩
theorem LS.congr (h:LS m K r g n S f w0 w) (he:∀j,j<n→f' j=f j):LS m K r g n S f' w0 w:=by
 obtain⟨cs,hr⟩:=h.row;exact⟨⟨cs,hr.congr he⟩,h.rs,h.gS,h.rg,h.mg,h.wr⟩
theorem LS.put (h:LS m K r g n S f w0 w) {k i:Nat} (hk:k<n) (hi:i<10) (u:Value) (x:Hd×Sl×Sl)
  (hx:∀cs (w':World),(∀y,y<w.heap.size→S y→w'.heap[y]? =w.heap[y]?)→SEl w S (f k) cs (k*10)→k*10+9<cs.size→SEl w' S x (cs.setIfInBounds (k*10+i) u) (k*10)):
  LS m K r g n S (fun j=>if j=k then x else f j) w0 (w.setCell ⟨g,k*10+i,none⟩ u):=by
 obtain⟨cs,hr⟩:=h.row;have hW:Writes [some g] w (w.setCell ⟨g,k*10+i,none⟩ u):=Writes.store w (by simp) _;exact⟨⟨_,hr.put h.gS hk hi u x (fun w'=>hx cs w')⟩,h.rs.writes hW h.rg h.mg h.wr,h.gS,h.rg,h.mg,h.wr⟩
theorem LS.twice {k:Nat} {x y:Hd×Sl×Sl} (h:LS m K r g n S (fun j=>if j=k then y else(fun j=>if j=k then x else f j) j) w0 w):LS m K r g n S (fun j=>if j=k then y else f j) w0 w:=h.congr fun j hj=>by
 by_cases e:j=k
 ·simp[e]
 ·simp[e]
theorem LS.facts (h:LS m K r g n S f w0 w) {k:Nat} (hk:k<n):(∀i,i<10→∃u,w.cell? ⟨g,k*10+i,none⟩=some u)∧g<w.heap.size∧∀i,w.frozen? ⟨g,i,none⟩=false:=by
 obtain⟨cs,hr⟩:=h.row;obtain⟨pe,pf,pc,Aa,ca,At,ct,Al,cl,a,-⟩:=hr.2 k hk;refine⟨fun i hi=>⟨_,(hr.1.cell _).trans ((a i hi).trans (Array.getElem?_eq_getElem (by simp[stC];exact hi)))⟩,hr.1.lt,fun i=>hr.1.frozen i⟩
theorem SEl.setK {x:Hd×Sl×Sl} {cs:Array Value} {o:Nat} (h:SEl w S x cs o) (hk:∀y,y<w.heap.size→S y→w'.heap[y]? =w.heap[y]?) (hs:o+9<cs.size):SEl w' S ({x.1 with k:=2},x.2.1,x.2.2) (cs.setIfInBounds (o+0) (.int .i64 2)) o:=by
 obtain⟨pe,pf,pc,Aa,ca,At,ct,Al,cl,a,b,c,d⟩:=h;refine⟨pe,pf,pc,Aa,ca,At,ct,Al,cl,fun j hj=> ?_,⟨b.e.keep hk,b.f.keep hk,b.c.keep hk,b.a.keep hk,b.x,b.y,(by decide:(2:Nat)≤12),b.at_⟩,c.keep hk,d.keep hk⟩;by_cases hj0:j=0
 ·subst hj0;rw[Array.getElem?_setIfInBounds_self_of_lt (by omega)];rfl
 ·rw[Array.getElem?_setIfInBounds_ne (by omega),a j hj]
  match j,hj,hj0 with
  |1,_,_|2,_,_|3,_,_|4,_,_|5,_,_|6,_,_|7,_,_|8,_,_|9,_,_=>rfl
theorem SEl.setY {x:Hd×Sl×Sl} {cs:Array Value} {o:Nat} (h:SEl w S x cs o) (hk:∀y,y<w.heap.size→S y→w'.heap[y]? =w.heap[y]?) (hs:o+9<cs.size) (y:List UInt8) (hy:y.length≤4096):SEl w' S ({x.1 with y:=y},x.2.1,x.2.2) (cs.setIfInBounds (o+2) (.string (ay y))) o:=by
 obtain⟨pe,pf,pc,Aa,ca,At,ct,Al,cl,a,b,c,d⟩:=h;refine⟨pe,pf,pc,Aa,ca,At,ct,Al,cl,fun j hj=> ?_,⟨b.e.keep hk,b.f.keep hk,b.c.keep hk,b.a.keep hk,b.x,hy,b.k,b.at_⟩,c.keep hk,d.keep hk⟩;by_cases hj0:j=2
 ·subst hj0;rw[Array.getElem?_setIfInBounds_self_of_lt (by omega)];rfl
 ·rw[Array.getElem?_setIfInBounds_ne (by omega),a j hj]
  match j,hj,hj0 with
  |0,_,_|1,_,_|3,_,_|4,_,_|5,_,_|6,_,_|7,_,_|8,_,_|9,_,_=>rfl
theorem SEl.setE {x:Hd×Sl×Sl} {cs:Array Value} {o:Nat} (h:SEl w S x cs o) (hk:∀y,y<w.heap.size→S y→w'.heap[y]? =w.heap[y]?) (hs:o+9<cs.size):SEl w' S ({x.1 with e:= .nil},x.2.1,x.2.2) (cs.setIfInBounds (o+3) (.pointer none)) o:=by
 obtain⟨pe,pf,pc,Aa,ca,At,ct,Al,cl,a,b,c,d⟩:=h;refine⟨none,pf,pc,Aa,ca,At,ct,Al,cl,fun j hj=> ?_,⟨rfl,b.f.keep hk,b.c.keep hk,b.a.keep hk,b.x,b.y,b.k,b.at_⟩,c.keep hk,d.keep hk⟩;by_cases hj0:j=3
 ·subst hj0;rw[Array.getElem?_setIfInBounds_self_of_lt (by omega)];rfl
 ·rw[Array.getElem?_setIfInBounds_ne (by omega),a j hj]
  match j,hj,hj0 with
  |0,_,_|1,_,_|2,_,_|4,_,_|5,_,_|6,_,_|7,_,_|8,_,_|9,_,_=>rfl
theorem SEl.setA {x:Hd×Sl×Sl} {cs:Array Value} {o:Nat} (h:SEl w S x cs o) (hk:∀y,y<w.heap.size→S y→w'.heap[y]? =w.heap[y]?) (hs:o+9<cs.size) {l:List Ag} {A:Option Addr} {c:Nat} (hA:aZ w S l (.slice A l.length c)):SEl w' S ({x.1 with args:=l},x.2.1,x.2.2) (cs.setIfInBounds (o+6) (.slice A l.length c)) o:=by
 obtain⟨pe,pf,pc,Aa,ca,At,ct,Al,cl,a,b,cc,d⟩:=h;refine⟨pe,pf,pc,A,c,At,ct,Al,cl,fun j hj=> ?_,⟨b.e.keep hk,b.f.keep hk,b.c.keep hk,hA.keep hk,b.x,b.y,b.k,b.at_⟩,cc.keep hk,d.keep hk⟩;by_cases hj0:j=6
 ·subst hj0;rw[Array.getElem?_setIfInBounds_self_of_lt (by omega)];rfl
 ·rw[Array.getElem?_setIfInBounds_ne (by omega),a j hj]
  match j,hj,hj0 with
  |0,_,_|1,_,_|2,_,_|3,_,_|4,_,_|5,_,_|7,_,_|8,_,_|9,_,_=>rfl
theorem SEl.setT {x:Hd×Sl×Sl} {cs:Array Value} {o:Nat} (h:SEl w S x cs o) (hk:∀y,y<w.heap.size→S y→w'.heap[y]? =w.heap[y]?) (hs:o+9<cs.size) {l:Sl} {A:Option Addr} {c:Nat} (hA:aQ w S l (.slice A l.len c)):SEl w' S (x.1,l,x.2.2) (cs.setIfInBounds (o+7) (.slice A l.len c)) o:=by
 obtain⟨pe,pf,pc,Aa,ca,At,ct,Al,cl,a,b,cc,d⟩:=h;refine⟨pe,pf,pc,Aa,ca,A,c,Al,cl,fun j hj=> ?_,b.keep hk,hA.keep hk,d.keep hk⟩;by_cases hj0:j=7
 ·subst hj0;rw[Array.getElem?_setIfInBounds_self_of_lt (by omega)];rfl
 ·rw[Array.getElem?_setIfInBounds_ne (by omega),a j hj]
  match j,hj,hj0 with
  |0,_,_|1,_,_|2,_,_|3,_,_|4,_,_|5,_,_|6,_,_|8,_,_|9,_,_=>rfl
theorem SEl.setL {x:Hd×Sl×Sl} {cs:Array Value} {o:Nat} (h:SEl w S x cs o) (hk:∀y,y<w.heap.size→S y→w'.heap[y]? =w.heap[y]?) (hs:o+9<cs.size) {l:Sl} {A:Option Addr} {c:Nat} (hA:aQ w S l (.slice A l.len c)):SEl w' S (x.1,x.2.1,l) (cs.setIfInBounds (o+8) (.slice A l.len c)) o:=by
 obtain⟨pe,pf,pc,Aa,ca,At,ct,Al,cl,a,b,cc,d⟩:=h;refine⟨pe,pf,pc,Aa,ca,At,ct,A,c,fun j hj=> ?_,b.keep hk,cc.keep hk,hA.keep hk⟩;by_cases hj0:j=8
 ·subst hj0;rw[Array.getElem?_setIfInBounds_self_of_lt (by omega)];rfl
 ·rw[Array.getElem?_setIfInBounds_ne (by omega),a j hj]
  match j,hj,hj0 with
  |0,_,_|1,_,_|2,_,_|3,_,_|4,_,_|5,_,_|6,_,_|7,_,_|9,_,_=>rfl
end
def jY (K:List UInt8→Nat) (l:Sl) (k j:Nat):Hd×Sl×Sl:=if j<k then FI K (l.elems.getD j (hd0 0,.nil,.nil))else l.elems.getD j (hd0 0,.nil,.nil)
def RLs (m:Nat) (K:List UInt8→Nat) (l:Sl):Prop:=∀(w:World) (v:Value) (S:Nat→Prop),eX w m K→aQ w S l v→
 Calls Tryz.prog 44 #[.agg #[.map (some m)],v] w fun e w'=>∃v',e= .returned v'∧aQ w' (fun x=>S x∨w.heap.size≤x) (dI K l) v'∧Below w.heap.size w w'
def kX (w:World) (S:Nat→Prop) (g:Nat) (x:Nat):Prop:=(x<w.heap.size∧S x)∨g<x
theorem qZ (m:Nat) (K:List UInt8→Nat) (l:Sl) (ih:∀l',l'.dep<l.dep→RLs m K l'):RLs m K l:=by
 intro w v S h hA;have hS:=Rsv.start h;have hmr:=h.lt;obtain⟨w1,hw1⟩:∃y,y=w.alloc (.cells #[.map (some m)] 86):=⟨_,rfl⟩;rw[←hw1]at hS;obtain⟨r,hr⟩:∃y,y=w.heap.size:=⟨_,rfl⟩
 have hsz1:w1.heap.size=r+1:=by rw[hw1,hr];simp
 have hfold:Hid (w.alloc (.cells #[.map (some m)] 86)=w1):=Za hw1.symm;have hrB:Hid (w.heap.size=r):=Za hr.symm;rw[←hr]at hS;have hS':=Za hS;obtain⟨A,c,vs,e,hlen,hlc,hrow,hcs⟩:=hA;subst e;have hvl:=hcs.length;have hone:=Za hcs.one;have hrow1:=Za ((hrow.mono (S':=Evr) fun _ _ _=>trivial).up hS.bl);have hcs':=Za hcs;obtain⟨n,hn'⟩:∃y,y=l.len:=⟨_,rfl⟩;rw[←hn']at hlen hlc hvl⊢;have hn2:=Za hn';have FY:=Za (hr▸hmr:m<r);have hsz1':=Za hsz1;have hih:=Za ih;clear hw1 hr hS hn' h hrow hcs hmr hsz1 ih;go_enter Tryz.func44,Tryz.ntmps44;go_upto_region 1 with(fail);rw[hrB.out,hfold.out];clear hfold;go_wp2_with fail;refine(tJ w1 A n c vs hvl (by omega) hrow1.out hone.out).mono ?_;rintro e w2 ⟨⟨v1,rfl,ho⟩,hb⟩;have hS2:=Za (hS'.out.below hb);clear hrow1 hone hS';by_cases hne:l= .nil
 ·subst hne
  obtain rfl:n=0:=by rw[hn2.out];rfl
  have hv1:∃A' c',v1= .slice A' 0 c':=by obtain⟨A',c',e,-,-⟩:=bI.own (S:=fun _=>True) ho (fun _ _=>trivial);exact⟨A',c',e⟩
  obtain⟨A',c',rfl⟩:=hv1;clear ho hb hcs';go_wp2_with fail;go_loopw [14] (fun i wl=>i= .int .i64 0∧Hid (Below w.heap.size w wl)) (fun _ _=>0)
  case atStart=>exact⟨rfl,Za hS2.out.bl⟩
  clear hS2;obtain⟨rfl,hB⟩:=hrel;go_wp2_with fail;go_ret;exact⟨_,rfl,⟨A',c',[],rfl,by simp[dI,Sl.len],by simp[dI,Sl.len],bI.nil_ _ _ _,rfl⟩,hB.out⟩
 ·have hof:=jT.of (l:=l) (w:=w2) (jL ho hn2.out) hne hcs'.out (hS2.out.bl);obtain⟨g,cap,cs,hv1,hcap,hgb,hAR⟩:=hof;rw[←hn2.out]at hv1 hcap hAR;subst hv1;have hg:=Za (by have:=hsz1'.out;omega:r<g)
  have hL0:Hid (LS m K r g n (kX w S g) (jY K l 0) w w2):=Za ⟨⟨cs,(hAR.mono fun x _ hx=> .inl hx).congr fun j hj=>by unfold jY;rw[if_neg (by omega)]⟩,hS2.out,fun hh=>by
   rcases hh with hh|hh
   ·have h1:=hh.1;have h2:=hg.out;have h3:=hrB.out;omega
   ·omega,hg.out,Nat.lt_trans FY.out hg.out,by rw[hrB.out];exact Nat.le_refl _⟩
  clear ho hb hcs' hgb hAR hS2;go_wp2_with fail;go_loopw [14] (fun i wl=>∃k:Nat,k≤n∧i= .int .i64 k∧Hid (LS m K r g n (kX w S g) (jY K l k) w wl)) (fun i _=>n-(intOf i).toNat)
  case atStart=>exact⟨0,by omega,rfl,hL0⟩
  clear hL0;obtain⟨k,hk,rfl,hL⟩:=hrel;rename World=>wl;by_cases hkn:k<n
  ·have hkl:k<l.elems.length:=by rw[iQ,←hn2.out];exact hkn
   obtain⟨x,hx⟩:∃x,x=l.elems[k]:=⟨_,rfl⟩;have xH:Hid (l.elems.getD k (hd0 0,.nil,.nil)=x):=Za (by rw[hx];simp[List.getD_eq_getElem?_getD,List.getElem?_eq_getElem hkl]);have hdx:Hid (x.2.1.dep<l.dep∧x.2.2.dep<l.dep):=Za (by rw[hx];exact uP l k hkl);obtain⟨hh,tt,ee⟩:=x
   have hfk:jY K l k k=(hh,tt,ee):=by unfold jY;rw[if_neg (by omega)];exact xH.out
   obtain⟨cs,hr⟩:=hL.out.row;have hel:=hr.2 k hkn;rw[hfk]at hel;obtain⟨pe0,Aa0,ca0,At0,ct0,Al0,cl0,q0,q3,q6,q7,q8,-,hxe,hxa,hxt,hxl⟩:=hel.facts hr.1;simp only[Nat.add_zero]at q0;have hL':=hL;obtain⟨qr,qrl⟩:=hL.out.rs.facts;have qgl:=hr.1.lt;have E5:=Za hfk;clear hx hr hel hxe hxa hxt hxl hfk;go_upto_region 6 with(fail);obtain⟨wW,hwW⟩:∃y,y=wl.drew:=⟨_,rfl⟩
   have hbW:Below wl.heap.size wl wW:=by rw[hwW];exact(Below.refl _ wl).drew
   have hLW:=hL'.out.below hbW;clear q0 q3 q6 q7 q8 qr qrl qgl;obtain⟨cs,hr⟩:=hLW.row;have hel:=hr.2 k hkn;rw[E5.out]at hel;obtain⟨pe,Aa,ca,At,ct,Al,cl,q0,q3,q6,q7,q8,-,hxe,hxa,hxt,hxl⟩:=hel.facts hr.1;simp only[Nat.add_zero]at q0;obtain⟨qr,qrl⟩:=hLW.rs.facts;have qgl:=hr.1.lt;have hcall:=Za (kU wW m K hLW.rs.km hh.e _ (hxe.mono (S':=Evr) fun _ _ _=>trivial));obtain⟨PP,F8⟩:∃P:World→Prop,P=fun w'=>LS m K r g n (kX w S g) (jY K l k) w w':=⟨_,rfl⟩;have hPP:Hid (∀w1,Below wW.heap.size wW w1→PP w1):=Za (fun w1 hb=>by rw[F8];exact hLW.below hb);have hgo:Hid (FD wW PP false wl.drew):=Za ⟨fun _=>hwW.symm,fun h=>(by cases h)⟩;have hxn:=Za (uz hxe);have hPP2:=Za F8;clear hr hel hxe hxa hxt hxl hL' hL F8 hwW hbW hLW
   refine aC ((eqv (.agg #[.map (some m)]))::(eqv (.pointer (some ⟨g,k*10,none⟩)))::(eqv (.pointer (some ⟨g,k*10,none⟩)))::(eqv (.pointer (some ⟨g,k*10+3,none⟩)))::(eqv (.pointer pe))::(eqv (.tuple #[.string (ay (fM K hh.e)),.bool (dN K hh.e)]))::(eqv (.tuple #[.string (ay (fM K hh.e)),.bool (dN K hh.e)]))::(eqv (.string (ay (fM K hh.e))))::(eqv (.bool (dN K hh.e)))::(eqv (.string (ay (fM K hh.e))))::(eqv (.bool (dN K hh.e)))::[])
    (⟨[(2,none)],0,[5]⟩::(rn1 7)::(rd1 22 1)::(rd1 23 2)::⟨[(24,some 3)],0,[5]⟩::⟨[(21,some 0),(25,some 4)],0,[]⟩::(rd1 26 5)::(rd1 20 6)::(rd1 20 6)::(rd1 27 7)::(rd1 28 8)::[])
    (no::no::no::no::no::no::no::no::so 9::so 10::no::no::no::no::no::no::no::no::no::no::so 6::so 0::so 1::so 2::so 3::so 4::so 5::so 7::so 8::[])
    (fun L w'=>FD wW PP (L 5) w') (fun i w w'=>i≠5→w'=w) ?mixK6 ?okK6 ?tabK6 ?frK6 ?inK6 ?keptK6 ?startK6 ?eachK6 ?finK6
   case mixK6|okK6|tabK6|frK6=>kernel_rfl
   case inK6=>rfl
   case keptK6=>((repeat refine⟨fun _ _ _ _ _ _ _ _ _ _ _ h=>h,?_⟩);exact trivial)
   case startK6=>exact hgo.out
   case eachK6=>
    repeat' first|exact trivial|refine And.intro ?_ ?_
    ·intro w L f hC hLi hLd hLn ⟨a,_⟩;change _=_ at a;refine au.live rfl ?_;have hw:=hC.a (hLn 5 (by simp));rw[hw];have hC:=hw▸hC;obtain⟨ev,ec,ef⟩:=evs f;refine aj ?_ hC (fun _=>rfl) rfl;go_simp
    ·intro w L f hC hLi hLd hLn ⟨d,_⟩;refine au.live rfl ?_;exact aj (v:=f 7) rfl (hC) (fun _=>rfl) d
    iterate 2 (intro w L f hC hLi hLd hLn ⟨a,_⟩;change _=_ at a;refine au.live rfl ?_;obtain⟨ev,ec,ef⟩:=evs f;refine aj ?_ hC (fun _=>rfl) rfl;go_simp)
    ·intro w L f hC hLi hLd hLn ⟨a,_⟩;change _=_ at a;refine au.live rfl ?_;have hw:=hC.a (hLn 5 (by simp));rw[hw];have hC:=hw▸hC;obtain⟨ev,ec,ef⟩:=evs f;refine aj ?_ hC (fun _=>rfl) rfl;go_simp
    ·intro w L f hC hLi hLd hLn ⟨a,b,_⟩;change _=_ at a b;refine au.live rfl ?_;have hw:=hC.a hLi;rw[hw];obtain⟨ev,ec,ef⟩:=evs f;refine aF (f:=86) (args:= #[.agg #[.map (some m)],.pointer pe]) (w:=wW) (by go_simp) hcall.out ?_;rintro e w1 ⟨he,hb⟩;exact⟨_,he,⟨fun h=>absurd h (by simp),fun _=>hPP.out w1 hb⟩,fun h=>absurd rfl h,rfl⟩
    ·intro w L f hC hLi hLd hLn ⟨d,_⟩;refine au.live rfl ?_;exact aj (v:=f 26) rfl (hC) (fun _=>rfl) d
    iterate 2 (intro w L f hC hLi hLd hLn ⟨a,_⟩;change _=_ at a;refine au.live rfl ?_;obtain⟨ev,ec,ef⟩:=evs f;refine aj ?_ hC (fun _=>rfl) rfl;go_simp)
    ·intro w L f hC hLi hLd hLn ⟨d,_⟩;refine au.live rfl ?_;exact aj (v:=f 27) rfl (hC) (fun _=>rfl) d
    ·intro w L f hC hLi hLd hLn ⟨d,_⟩;refine au.live rfl ?_;exact aj (v:=f 28) rfl (hC) (fun _=>rfl) d
   intro x w' hC hV
   have hd:=hC.c rfl;have e8:x 9= .string (ay (fM K hh.e)):=hV 9 _ rfl rfl;have e9:x 10= .bool (dN K hh.e):=hV 10 _ rfl rfl;clear hC hV;simp only[framed];obtain⟨wa,hwa⟩:∃y,y=w':=⟨_,rfl⟩;rw[←hwa]at hd⊢;rw[hPP2.out]at hd;have hLa:=Za hd;clear hwa hd hcall hPP hgo hPP2 q0 q3 q6 q7 q8 qr qrl qgl;obtain⟨b1,hb1⟩:∃y,y=(dN K hh.e&&hh.k==0):=⟨_,rfl⟩
   obtain⟨h1,hh1⟩:∃y:Hd,y=if b1 then{hh with k:=2,y:=hh.e.name,e:= .nil}else hh:=⟨_,rfl⟩
   have hhead:Hid ({h1 with args:=h1.args.map (fG K)}=n_ K hh):=Za (by rw[hh1,hb1];unfold n_;cases dN K hh.e&&hh.k==0<;>rfl);have e8':=Za e8;have e9':=Za e9;clear e8 e9;go_upto_region 7 with(fail);go_cut [9,36] (fun _ u36 wx=>Hid (u36= .bool b1∧LS m K r g n (kX w S g) (jY K l k) w wx))
   case first=>
    have e9:=e9'.out;obtain⟨cs,hr⟩:=hLa.out.row;have hel:=hr.2 k hkn;rw[E5.out]at hel;obtain⟨pe,Aa,ca,At,ct,Al,cl,q0,q3,q6,q7,q8,-,hxe,hxa,hxt,hxl⟩:=hel.facts hr.1;simp only[Nat.add_zero]at q0;have qgl:=hr.1.lt;clear hr hel hxe hxa hxt hxl q3 q6 q7 q8
    cases hp:dN K hh.e with
    |false=>
     rw[hp]at e9;have hb2:Hid (b1=false):=Za (by rw[hb1,hp];rfl);clear hp hb1 hh1;go_wp2_with fail
     go_meet
     case rel=>exact Za ⟨by rw[hb2.out],hLa.out⟩
    |true=>
     rw[hp]at e9;by_cases hk0:hh.k=0
     ·have hk2:((hh.k:Int)==0)=true:=by simp;omega
      have hb2:Hid (b1=true):=Za (by rw[hb1,hp,hk0];rfl);clear hp hb1 hh1 hk0;go_wp2_with fail
      go_meet
      case rel=>exact Za ⟨by rw[hb2.out],hLa.out⟩
     ·have hk2:((hh.k:Int)==0)=false:=by simp;omega
      have hb2:Hid (b1=false):=Za (by rw[hb1,hp];simp[hk0]);clear hp hb1 hh1 hk0;go_wp2_with fail
      go_meet
      case rel=>exact Za ⟨by rw[hb2.out],hLa.out⟩
   case rest=>
    obtain⟨hu36,hLb⟩:=hcut.out;clear hcut hLa;replace hLb:=Za hLb;subst hu36
    go_upto_if 36 with(fail)
    go_cut [8] (fun _ wx=>Hid (LS m K r g n (kX w S g) (fun j=>if j=k then(h1,tt,ee)else jY K l k j) w wx))
    case first=>
     cases hb2:b1 with
     |false=>
      have hfin:=Za (hLb.out.congr (f':=fun j=>if j=k then(h1,tt,ee)else jY K l k j) fun j hj=>by
       by_cases e:j=k
       ·rw[if_pos e,e,E5.out,hh1,hb2];rfl
       ·rw[if_neg e])
      clear hb1 hh1 hb2;go_wp2_with fail
      go_meet
      case rel=>exact hfin
     |true=>
      rw[hb2]at hb1 hh1
      have hp:dN K hh.e=true:=by cases hp:dN K hh.e with
       |true=>rfl
       |false=>rw[hp]at hb1;cases hb1
      have hnv:fM K hh.e=hh.e.name:=by unfold fM;rw[if_pos hp]
      have e8:x 9= .string (ay hh.e.name):=by rw[e8'.out,hnv]
      rename World=>wb;obtain⟨a1,a2,a3⟩:=hLb.out.facts hkn;obtain⟨u0,z0⟩:=a1 0 (by decide);obtain⟨u2,z2⟩:=a1 2 (by decide);obtain⟨u3,z3⟩:=a1 3 (by decide);simp only[Nat.add_zero]at z0
      have hA1:=hLb.out.put hkn (i:=0) (by decide) (.int .i64 2) ({hh with k:=2},tt,ee) (fun cs w' hk hs hsz=>by
       rw[E5.out]at hs
       exact hs.setK hk hsz)
      have hA2:=LS.twice (hA1.put hkn (i:=2) (by decide) (.string (ay hh.e.name)) ({hh with k:=2,y:=hh.e.name},tt,ee) (fun cs w' hk hs hsz=>by
       rw[if_pos rfl]at hs
       exact hs.setY hk hsz hh.e.name hxn.out))
      have hA3:=LS.twice (hA2.put hkn (i:=3) (by decide) (.pointer none) ({hh with k:=2,y:=hh.e.name,e:= .nil},tt,ee) (fun cs w' hk hs hsz=>by
       rw[if_pos rfl]at hs
       exact hs.setE hk hsz))
      have hfin:Hid (LS m K r g n (kX w S g) (fun j=>if j=k then(h1,tt,ee)else jY K l k j) w _):=Za (by rw[hh1];exact hA3);simp only[Nat.add_zero]at hfin;clear hb1 hh1 hb2 hp hnv hA1 hA2 hA3 a1;go_wp2_with fail
      go_meet
      case rel=>exact hfin
    case rest=>
    have hLc:=hcut;clear hcut hLb hh1 hb1;rename World=>wc;go_upto_region 11 with(fail);obtain⟨wW,hwW⟩:∃y,y=World.drew wc:=⟨_,rfl⟩
    have hbW:Below wc.heap.size wc wW:=by rw[hwW];exact(Below.refl _ wc).drew
    have hLW:=hLc.out.below hbW;obtain⟨cs,hr⟩:=hLW.row;have hel:=hr.2 k hkn;dsimp only at hel;rw[if_pos rfl]at hel;obtain⟨pe,Aa,ca,At,ct,Al,cl,q0,q3,q6,q7,q8,-,hxe,hxa,hxt,hxl⟩:=hel.facts hr.1;dsimp only at q0 q3 q6 q7 q8 hxe hxa hxt hxl;clear q0 q3 q7 q8;obtain⟨qr,qrl⟩:=hLW.rs.facts;have qgl:=hr.1.lt;have hwg:=hLW.rg;obtain⟨nA,hnn⟩:∃y,y=h1.args.length:=⟨_,rfl⟩;have hcall0:=AV wW m K hLW.rs.km h1.args _ _ hxa;rw[←hnn]at q6 hcall0;have hcall:=Za hcall0;obtain⟨ZZ,hZZ⟩:∃P:World→Prop,P=fun w'=>LS m K r g n (kX w S g) (fun j=>if j=k then({h1 with args:=h1.args.map (fG K)},tt,ee)else jY K l k j) w w':=⟨_,rfl⟩;obtain⟨MM,lN⟩:∃P:World→Value→Prop,P=fun w' v=>LS m K r g n (kX w S g) (fun j=>if j=k then(h1,tt,ee)else jY K l k j) w w'∧aZ w' (kX w S g) (h1.args.map (fG K)) v:=⟨_,rfl⟩;have hgW:g<wW.heap.size:=qgl
    have hMM:Hid (∀e w1,(∃v',e=Ending.returned v'∧aZ w1 (fun x=>kX w S g x∨wW.heap.size≤x) (h1.args.map (fG K)) v'∧Below wW.heap.size wW w1)→∃v',e=Ending.returned v'∧MM w1 v'):=Za (fun e w1 h=>by
     obtain⟨v',he,hv,hb⟩:=h;rw[lN]
     exact⟨v',he,hLW.below hb,hv.mono fun x _ hx=>by
      rcases hx with hx|hx
      ·exact hx
      ·exact .inr (by omega)⟩)
    have hshape:Hid (∀w1 v,MM w1 v→∃vA vn vc,v= .slice vA vn vc):=Za (fun w1 v h=>by
     rw[lN]at h;obtain⟨A',c',us',e',-⟩:=h.2
     exact⟨A',_,c',e'⟩)
    have hfact:Hid (∀w1 v,MM w1 v→(∃u,w1.cell? ⟨g,k*10+6,none⟩=some u)∧g<w1.heap.size∧∀i,w1.frozen? ⟨g,i,none⟩=false):=Za (fun w1 v h=>by
     rw[lN]at h;obtain⟨a1,a2,a3⟩:=h.1.facts hkn
     exact⟨a1 6 (by decide),a2,a3⟩)
    have hZ:Hid (∀w1 v,MM w1 v→ZZ (w1.setCell ⟨g,k*10+6,none⟩ v)):=Za (fun w1 v h=>by
     rw[lN]at h;rw[hZZ];obtain⟨a1,a2⟩:=h;have a2':=a2;obtain⟨A',c',us',e',-⟩:=a2;subst e';refine LS.twice (x:=(h1,tt,ee)) (a1.put hkn (i:=6) (by decide) _ ({h1 with args:=h1.args.map (fG K)},tt,ee) (fun cs w' hk hs hsz=> ?_));rw[if_pos rfl]at hs
     exact hs.setA hk hsz a2')
    have hgo:Hid (Cb wW ZZ false false (World.drew wc)):=Za ⟨fun h=>(by cases h),fun _=>hwW.symm,fun h=>(by cases h)⟩;have hZZ2:=Za hZZ;clear hr hel hxe hxa hxt hxl hLc hZZ lN hwW hbW hLW hcall0 hnn;refine aC ((eqv (.pointer (some ⟨g,k*10,none⟩)))::(eqv (.agg #[.map (some m)]))::(eqv (.pointer (some ⟨g,k*10,none⟩)))::(eqv (.pointer (some ⟨g,k*10,none⟩)))::(eqv (.pointer (some ⟨g,k*10+6,none⟩)))::(eqv (.slice Aa nA ca))::(fun L w v=>L 6=true→L 9=false→MM w v)::(eqv (.pointer (some ⟨g,k*10,none⟩)))::(eqv (.pointer (some ⟨g,k*10+6,none⟩)))::(fun _ _ _=>True)::[])
     ((rn1 7)::⟨[(2,none)],0,[6]⟩::(rn1 7)::(rd1 49 2)::(rd1 50 3)::⟨[(51,some 4)],0,[6]⟩::⟨[(48,some 1),(52,some 5)],0,[9]⟩::⟨[(47,some 0)],0,[9]⟩::⟨[(54,some 7)],0,[9]⟩::⟨[(55,some 8),(53,some 6)],0,[]⟩::[])
     (no::no::no::no::no::no::no::no::no::no::no::no::no::no::no::no::no::no::no::no::no::no::no::no::no::no::no::no::no::no::no::no::no::no::no::no::no::no::no::no::no::no::no::no::no::no::no::so 0::so 1::so 2::so 3::so 4::so 5::so 6::so 7::so 8::[])
     (fun L w'=>Cb wW ZZ (L 6) (L 9) w') (fun i w w'=>i≠6→i≠9→w'=w) ?mixK11 ?okK11 ?tabK11 ?frK11 ?inK11 ?keptK11 ?startK11 ?eachK11 ?finK11
    case mixK11|okK11|tabK11|frK11=>kernel_rfl
    case inK11=>rfl
    case keptK11=>exact⟨fun _ _ _ _ _ _ _ _ _ _ _ h=>h,fun _ _ _ _ _ _ _ _ _ _ _ h=>h,fun _ _ _ _ _ _ _ _ _ _ _ h=>h,fun _ _ _ _ _ _ _ _ _ _ _ h=>h,fun _ _ _ _ _ _ _ _ _ _ _ h=>h,fun _ _ _ _ _ _ _ _ _ _ _ h=>h,fun i hne hr L w w' v hLi hC hC' hG h h1 h2=>by
       have n6:(6==i)=false:=by simpa using fun e=>hne e.symm
       have a1:L 6=true:=by simpa[n6]using h1
       have n9:i≠9:=fun e=>by subst e;simp at h2
       have n9':(9==i)=false:=by simpa using fun e=>n9 e.symm
       have a2:L 9=false:=by simpa[n9']using h2
       rw[hG (fun e=>hne e) n9]
       exact h a1 a2,fun _ _ _ _ _ _ _ _ _ _ _ h=>h,fun _ _ _ _ _ _ _ _ _ _ _ h=>h,fun _ _ _ _ _ _ _ _ _ _ _ h=>h,trivial⟩
    case startK11=>exact hgo.out
    case eachK11=>
     repeat' first|exact trivial|refine And.intro ?_ ?_
     ·intro w L f hC hLi hLd hLn ⟨d,_⟩;refine au.live rfl ?_;exact aj (v:=f 7) rfl (hC) (fun _ _=>rfl) d
     ·intro w L f hC hLi hLd hLn ⟨a,_⟩;change _=_ at a;refine au.live rfl ?_;have hw:=hC.a (hLn 6 (by simp));rw[hw];have hC:=hw▸hC;obtain⟨ev,ec,ef⟩:=evs f;refine aj ?_ hC (fun _ _=>rfl) rfl;go_simp
     ·intro w L f hC hLi hLd hLn ⟨d,_⟩;refine au.live rfl ?_;exact aj (v:=f 7) rfl (hC) (fun _ _=>rfl) d
     iterate 2 (intro w L f hC hLi hLd hLn ⟨a,_⟩;change _=_ at a;refine au.live rfl ?_;obtain⟨ev,ec,ef⟩:=evs f;refine aj ?_ hC (fun _ _=>rfl) rfl;go_simp)
     ·intro w L f hC hLi hLd hLn ⟨a,_⟩;change _=_ at a;refine au.live rfl ?_;have hw:=hC.a (hLn 6 (by simp));rw[hw];have hC:=hw▸hC;obtain⟨ev,ec,ef⟩:=evs f;refine aj ?_ hC (fun _ _=>rfl) rfl;go_simp
     ·intro w L f hC hLi hLd hLn ⟨a,b,_⟩;change _=_ at a b;refine au.live rfl ?_;have hw:=hC.a hLi;rw[hw];obtain⟨ev,ec,ef⟩:=evs f;refine aF (f:=92) (args:= #[.agg #[.map (some m)],.slice Aa nA ca]) (w:=wW) (by go_simp) hcall.out ?_;rintro e w1 h1;obtain⟨v',he,h2⟩:=hMM.out e w1 h1;exact⟨v',he,⟨fun h=>absurd h (by simp[hLn 9 (by simp)]),fun h=>absurd h (by simp),fun h=>absurd h (by simp[hLn 9 (by simp)])⟩,fun h=>absurd rfl h,fun _ _=>h2⟩
     iterate 2 (intro w L f hC hLi hLd hLn ⟨a,_⟩;change _=_ at a;refine au.live rfl ?_;obtain⟨ev,ec,ef⟩:=evs f;refine aj ?_ hC (fun _ _=>rfl) rfl;go_simp)
     ·intro w L f hC hLi hLd hLn ⟨a,d53,_⟩;change _=_ at a;refine au.live rfl ?_;have l6:L 6=true:=hLd 6 (by decide);have hm:=d53 l6 hLi;obtain⟨vA,vn,vc,hsh⟩:=hshape.out w _ hm;rw[hsh]at hm;obtain⟨hcell,hlt,hfz⟩:=hfact.out w _ hm;obtain⟨uo,hcell⟩:=hcell;obtain⟨ev,ec,ef⟩:=evs f;refine dK (w':=w.setCell ⟨g,k*10+6,none⟩ (.slice vA vn vc)) ?_ ⟨fun _=>by simp[l6],fun h=>absurd h (by simp[l6]),fun _=>hZ.out w _ hm⟩ (fun _ h=>absurd rfl h) trivial;go_simp
    intro x w' hC hV
    have hd:=hC.c rfl;rw[hZZ2.out]at hd;clear hC hV hcall hMM hshape hfact hZ hgo hZZ2 q6 qr qrl qgl hgW hwg;simp only[framed];obtain⟨wd,hwd⟩:∃y,y=w':=⟨_,rfl⟩;rw[←hwd]at hd⊢;clear hwd;clear wc wW;obtain⟨wc,hwc⟩:∃y,y=wd:=⟨_,rfl⟩;rw[←hwc]at hd⊢;have hLc:=Za hd;clear hwc hd ZZ MM;rw[hhead.out]at hLc;obtain⟨h2,hh2⟩:∃y,y=n_ K hh:=⟨_,rfl⟩;rw[←hh2]at hLc;have hh2':=Za hh2;clear hh2;go_upto_region 12 with(fail);obtain⟨wW,hwW⟩:∃y,y=World.drew wc:=⟨_,rfl⟩
    have hbW:Below wc.heap.size wc wW:=by rw[hwW];exact(Below.refl _ wc).drew
    have hLW:=hLc.out.below hbW;obtain⟨cs,hr⟩:=hLW.row;have hel:=hr.2 k hkn;dsimp only at hel;rw[if_pos rfl]at hel;obtain⟨pe,Aa,ca,At,ct,Al,cl,q0,q3,q6,q7,q8,-,hxe,hxa,hxt,hxl⟩:=hel.facts hr.1;dsimp only at q0 q3 q6 q7 q8 hxe hxa hxt hxl;clear q0 q3 q6 q8;obtain⟨qr,qrl⟩:=hLW.rs.facts;have qgl:=hr.1.lt;have hwg:=hLW.rg;obtain⟨nT,hnn⟩:∃y,y=tt.len:=⟨_,rfl⟩;have hcall0:=hih.out tt hdx.out.1 wW _ _ hLW.rs.km hxt;rw[←hnn]at q7 hcall0;have hcall:=Za hcall0;obtain⟨ZZ,hZZ⟩:∃P:World→Prop,P=fun w'=>LS m K r g n (kX w S g) (fun j=>if j=k then(h2,dI K tt,ee)else jY K l k j) w w':=⟨_,rfl⟩;obtain⟨MM,lN⟩:∃P:World→Value→Prop,P=fun w' v=>LS m K r g n (kX w S g) (fun j=>if j=k then(h2,tt,ee)else jY K l k j) w w'∧aQ w' (kX w S g) (dI K tt) v:=⟨_,rfl⟩;have hgW:g<wW.heap.size:=qgl
    have hMM:Hid (∀e w1,(∃v',e=Ending.returned v'∧aQ w1 (fun x=>kX w S g x∨wW.heap.size≤x) (dI K tt) v'∧Below wW.heap.size wW w1)→∃v',e=Ending.returned v'∧MM w1 v'):=Za (fun e w1 h=>by
     obtain⟨v',he,hv,hb⟩:=h;rw[lN]
     exact⟨v',he,hLW.below hb,hv.mono fun x _ hx=>by
      rcases hx with hx|hx
      ·exact hx
      ·exact .inr (by omega)⟩)
    have hshape:Hid (∀w1 v,MM w1 v→∃vA vn vc,v= .slice vA vn vc):=Za (fun w1 v h=>by
     rw[lN]at h;obtain⟨A',c',us',e',-⟩:=h.2
     exact⟨A',_,c',e'⟩)
    have hfact:Hid (∀w1 v,MM w1 v→(∃u,w1.cell? ⟨g,k*10+7,none⟩=some u)∧g<w1.heap.size∧∀i,w1.frozen? ⟨g,i,none⟩=false):=Za (fun w1 v h=>by
     rw[lN]at h;obtain⟨a1,a2,a3⟩:=h.1.facts hkn
     exact⟨a1 7 (by decide),a2,a3⟩)
    have hZ:Hid (∀w1 v,MM w1 v→ZZ (w1.setCell ⟨g,k*10+7,none⟩ v)):=Za (fun w1 v h=>by
     rw[lN]at h;rw[hZZ];obtain⟨a1,a2⟩:=h;have a2':=a2;obtain⟨A',c',us',e',-⟩:=a2;subst e';refine LS.twice (x:=(h2,tt,ee)) (a1.put hkn (i:=7) (by decide) _ (h2,dI K tt,ee) (fun cs w' hk hs hsz=> ?_));rw[if_pos rfl]at hs
     exact hs.setT hk hsz a2')
    have hgo:Hid (Cb wW ZZ false false (World.drew wc)):=Za ⟨fun h=>(by cases h),fun _=>hwW.symm,fun h=>(by cases h)⟩;have hZZ2:=Za hZZ;clear hr hel hxe hxa hxt hxl hLc hZZ lN hwW hbW hLW hcall0 hnn;refine aC ((eqv (.pointer (some ⟨g,k*10,none⟩)))::(eqv (.agg #[.map (some m)]))::(eqv (.pointer (some ⟨g,k*10,none⟩)))::(eqv (.pointer (some ⟨g,k*10,none⟩)))::(eqv (.pointer (some ⟨g,k*10+7,none⟩)))::(eqv (.slice At nT ct))::(fun L w v=>L 6=true→L 9=false→MM w v)::(eqv (.pointer (some ⟨g,k*10,none⟩)))::(eqv (.pointer (some ⟨g,k*10+7,none⟩)))::(fun _ _ _=>True)::[])
     ((rn1 7)::⟨[(2,none)],0,[6]⟩::(rn1 7)::(rd1 58 2)::(rd1 59 3)::⟨[(60,some 4)],0,[6]⟩::⟨[(57,some 1),(61,some 5)],0,[9]⟩::⟨[(56,some 0)],0,[9]⟩::⟨[(63,some 7)],0,[9]⟩::⟨[(64,some 8),(62,some 6)],0,[]⟩::[])
     (no::no::no::no::no::no::no::no::no::no::no::no::no::no::no::no::no::no::no::no::no::no::no::no::no::no::no::no::no::no::no::no::no::no::no::no::no::no::no::no::no::no::no::no::no::no::no::no::no::no::no::no::no::no::no::no::so 0::so 1::so 2::so 3::so 4::so 5::so 6::so 7::so 8::[])
     (fun L w'=>Cb wW ZZ (L 6) (L 9) w') (fun i w w'=>i≠6→i≠9→w'=w) ?mixK12 ?okK12 ?tabK12 ?frK12 ?inK12 ?keptK12 ?startK12 ?eachK12 ?finK12
    case mixK12|okK12|tabK12|frK12=>kernel_rfl
    case inK12=>rfl
    case keptK12=>exact⟨fun _ _ _ _ _ _ _ _ _ _ _ h=>h,fun _ _ _ _ _ _ _ _ _ _ _ h=>h,fun _ _ _ _ _ _ _ _ _ _ _ h=>h,fun _ _ _ _ _ _ _ _ _ _ _ h=>h,fun _ _ _ _ _ _ _ _ _ _ _ h=>h,fun _ _ _ _ _ _ _ _ _ _ _ h=>h,fun i hne hr L w w' v hLi hC hC' hG h h1 h2=>by
       have n6:(6==i)=false:=by simpa using fun e=>hne e.symm
       have a1:L 6=true:=by simpa[n6]using h1
       have n9:i≠9:=fun e=>by subst e;simp at h2
       have n9':(9==i)=false:=by simpa using fun e=>n9 e.symm
       have a2:L 9=false:=by simpa[n9']using h2
       rw[hG (fun e=>hne e) n9]
       exact h a1 a2,fun _ _ _ _ _ _ _ _ _ _ _ h=>h,fun _ _ _ _ _ _ _ _ _ _ _ h=>h,fun _ _ _ _ _ _ _ _ _ _ _ h=>h,trivial⟩
    case startK12=>exact hgo.out
    case eachK12=>
     repeat' first|exact trivial|refine And.intro ?_ ?_
     ·intro w L f hC hLi hLd hLn ⟨d,_⟩;refine au.live rfl ?_;exact aj (v:=f 7) rfl (hC) (fun _ _=>rfl) d
     ·intro w L f hC hLi hLd hLn ⟨a,_⟩;change _=_ at a;refine au.live rfl ?_;have hw:=hC.a (hLn 6 (by simp));rw[hw];have hC:=hw▸hC;obtain⟨ev,ec,ef⟩:=evs f;refine aj ?_ hC (fun _ _=>rfl) rfl;go_simp
     ·intro w L f hC hLi hLd hLn ⟨d,_⟩;refine au.live rfl ?_;exact aj (v:=f 7) rfl (hC) (fun _ _=>rfl) d
     iterate 2 (intro w L f hC hLi hLd hLn ⟨a,_⟩;change _=_ at a;refine au.live rfl ?_;obtain⟨ev,ec,ef⟩:=evs f;refine aj ?_ hC (fun _ _=>rfl) rfl;go_simp)
     ·intro w L f hC hLi hLd hLn ⟨a,_⟩;change _=_ at a;refine au.live rfl ?_;have hw:=hC.a (hLn 6 (by simp));rw[hw];have hC:=hw▸hC;obtain⟨ev,ec,ef⟩:=evs f;refine aj ?_ hC (fun _ _=>rfl) rfl;go_simp
     ·intro w L f hC hLi hLd hLn ⟨a,b,_⟩;change _=_ at a b;refine au.live rfl ?_;have hw:=hC.a hLi;rw[hw];obtain⟨ev,ec,ef⟩:=evs f;refine aF (f:=44) (args:= #[.agg #[.map (some m)],.slice At nT ct]) (w:=wW) (by go_simp) hcall.out ?_;rintro e w1 h1;obtain⟨v',he,h2⟩:=hMM.out e w1 h1;exact⟨v',he,⟨fun h=>absurd h (by simp[hLn 9 (by simp)]),fun h=>absurd h (by simp),fun h=>absurd h (by simp[hLn 9 (by simp)])⟩,fun h=>absurd rfl h,fun _ _=>h2⟩
     iterate 2 (intro w L f hC hLi hLd hLn ⟨a,_⟩;change _=_ at a;refine au.live rfl ?_;obtain⟨ev,ec,ef⟩:=evs f;refine aj ?_ hC (fun _ _=>rfl) rfl;go_simp)
     ·intro w L f hC hLi hLd hLn ⟨a,d62,_⟩;change _=_ at a;refine au.live rfl ?_;have l6:L 6=true:=hLd 6 (by decide);have hm:=d62 l6 hLi;obtain⟨vA,vn,vc,hsh⟩:=hshape.out w _ hm;rw[hsh]at hm;obtain⟨hcell,hlt,hfz⟩:=hfact.out w _ hm;obtain⟨uo,hcell⟩:=hcell;obtain⟨ev,ec,ef⟩:=evs f;refine dK (w':=w.setCell ⟨g,k*10+7,none⟩ (.slice vA vn vc)) ?_ ⟨fun _=>by simp[l6],fun h=>absurd h (by simp[l6]),fun _=>hZ.out w _ hm⟩ (fun _ h=>absurd rfl h) trivial;go_simp
    intro x w' hC hV
    have hd:=hC.c rfl;rw[hZZ2.out]at hd;clear hC hV hcall hMM hshape hfact hZ hgo hZZ2 q7 qr qrl qgl hgW hwg;simp only[framed];obtain⟨wd,hwd⟩:∃y,y=w':=⟨_,rfl⟩;rw[←hwd]at hd⊢;clear hwd;clear wc wW;obtain⟨wc,hwc⟩:∃y,y=wd:=⟨_,rfl⟩;rw[←hwc]at hd⊢;have hLc:=Za hd;clear hwc hd ZZ MM;go_upto_region 13 with(fail);obtain⟨wW,hwW⟩:∃y,y=World.drew wc:=⟨_,rfl⟩
    have hbW:Below wc.heap.size wc wW:=by rw[hwW];exact(Below.refl _ wc).drew
    have hLW:=hLc.out.below hbW;obtain⟨cs,hr⟩:=hLW.row;have hel:=hr.2 k hkn;dsimp only at hel;rw[if_pos rfl]at hel;obtain⟨pe,Aa,ca,At,ct,Al,cl,q0,q3,q6,q7,q8,-,hxe,hxa,hxt,hxl⟩:=hel.facts hr.1;dsimp only at q0 q3 q6 q7 q8 hxe hxa hxt hxl;clear q0 q3 q6 q7;obtain⟨qr,qrl⟩:=hLW.rs.facts;have qgl:=hr.1.lt;have hwg:=hLW.rg;obtain⟨nE,hnn⟩:∃y,y=ee.len:=⟨_,rfl⟩;have hcall0:=hih.out ee hdx.out.2 wW _ _ hLW.rs.km hxl;rw[←hnn]at q8 hcall0;have hcall:=Za hcall0;obtain⟨ZZ,hZZ⟩:∃P:World→Prop,P=fun w'=>LS m K r g n (kX w S g) (fun j=>if j=k then(h2,dI K tt,dI K ee)else jY K l k j) w w':=⟨_,rfl⟩;obtain⟨MM,lN⟩:∃P:World→Value→Prop,P=fun w' v=>LS m K r g n (kX w S g) (fun j=>if j=k then(h2,dI K tt,ee)else jY K l k j) w w'∧aQ w' (kX w S g) (dI K ee) v:=⟨_,rfl⟩;have hgW:g<wW.heap.size:=qgl
    have hMM:Hid (∀e w1,(∃v',e=Ending.returned v'∧aQ w1 (fun x=>kX w S g x∨wW.heap.size≤x) (dI K ee) v'∧Below wW.heap.size wW w1)→∃v',e=Ending.returned v'∧MM w1 v'):=Za (fun e w1 h=>by
     obtain⟨v',he,hv,hb⟩:=h;rw[lN]
     exact⟨v',he,hLW.below hb,hv.mono fun x _ hx=>by
      rcases hx with hx|hx
      ·exact hx
      ·exact .inr (by omega)⟩)
    have hshape:Hid (∀w1 v,MM w1 v→∃vA vn vc,v= .slice vA vn vc):=Za (fun w1 v h=>by
     rw[lN]at h;obtain⟨A',c',us',e',-⟩:=h.2
     exact⟨A',_,c',e'⟩)
    have hfact:Hid (∀w1 v,MM w1 v→(∃u,w1.cell? ⟨g,k*10+8,none⟩=some u)∧g<w1.heap.size∧∀i,w1.frozen? ⟨g,i,none⟩=false):=Za (fun w1 v h=>by
     rw[lN]at h;obtain⟨a1,a2,a3⟩:=h.1.facts hkn
     exact⟨a1 8 (by decide),a2,a3⟩)
    have hZ:Hid (∀w1 v,MM w1 v→ZZ (w1.setCell ⟨g,k*10+8,none⟩ v)):=Za (fun w1 v h=>by
     rw[lN]at h;rw[hZZ];obtain⟨a1,a2⟩:=h;have a2':=a2;obtain⟨A',c',us',e',-⟩:=a2;subst e';refine LS.twice (x:=(h2,dI K tt,ee)) (a1.put hkn (i:=8) (by decide) _ (h2,dI K tt,dI K ee) (fun cs w' hk hs hsz=> ?_));rw[if_pos rfl]at hs
     exact hs.setL hk hsz a2')
    have hgo:Hid (Cb wW ZZ false false (World.drew wc)):=Za ⟨fun h=>(by cases h),fun _=>hwW.symm,fun h=>(by cases h)⟩;have hZZ2:=Za hZZ;clear hr hel hxe hxa hxt hxl hLc hZZ lN hwW hbW hLW hcall0 hnn;refine aC ((eqv (.pointer (some ⟨g,k*10,none⟩)))::(eqv (.agg #[.map (some m)]))::(eqv (.pointer (some ⟨g,k*10,none⟩)))::(eqv (.pointer (some ⟨g,k*10,none⟩)))::(eqv (.pointer (some ⟨g,k*10+8,none⟩)))::(eqv (.slice Al nE cl))::(fun L w v=>L 6=true→L 9=false→MM w v)::(eqv (.pointer (some ⟨g,k*10,none⟩)))::(eqv (.pointer (some ⟨g,k*10+8,none⟩)))::(fun _ _ _=>True)::[])
     ((rn1 7)::⟨[(2,none)],0,[6]⟩::(rn1 7)::(rd1 67 2)::(rd1 68 3)::⟨[(69,some 4)],0,[6]⟩::⟨[(66,some 1),(70,some 5)],0,[9]⟩::⟨[(65,some 0)],0,[9]⟩::⟨[(72,some 7)],0,[9]⟩::⟨[(73,some 8),(71,some 6)],0,[]⟩::[])
     (no::no::no::no::no::no::no::no::no::no::no::no::no::no::no::no::no::no::no::no::no::no::no::no::no::no::no::no::no::no::no::no::no::no::no::no::no::no::no::no::no::no::no::no::no::no::no::no::no::no::no::no::no::no::no::no::no::no::no::no::no::no::no::no::no::so 0::so 1::so 2::so 3::so 4::so 5::so 6::so 7::so 8::[])
     (fun L w'=>Cb wW ZZ (L 6) (L 9) w') (fun i w w'=>i≠6→i≠9→w'=w) ?mixK13 ?okK13 ?tabK13 ?frK13 ?inK13 ?keptK13 ?startK13 ?eachK13 ?finK13
    case mixK13|okK13|tabK13|frK13=>kernel_rfl
    case inK13=>rfl
    case keptK13=>exact⟨fun _ _ _ _ _ _ _ _ _ _ _ h=>h,fun _ _ _ _ _ _ _ _ _ _ _ h=>h,fun _ _ _ _ _ _ _ _ _ _ _ h=>h,fun _ _ _ _ _ _ _ _ _ _ _ h=>h,fun _ _ _ _ _ _ _ _ _ _ _ h=>h,fun _ _ _ _ _ _ _ _ _ _ _ h=>h,fun i hne hr L w w' v hLi hC hC' hG h h1 h2=>by
       have n6:(6==i)=false:=by simpa using fun e=>hne e.symm
       have a1:L 6=true:=by simpa[n6]using h1
       have n9:i≠9:=fun e=>by subst e;simp at h2
       have n9':(9==i)=false:=by simpa using fun e=>n9 e.symm
       have a2:L 9=false:=by simpa[n9']using h2
       rw[hG (fun e=>hne e) n9]
       exact h a1 a2,fun _ _ _ _ _ _ _ _ _ _ _ h=>h,fun _ _ _ _ _ _ _ _ _ _ _ h=>h,fun _ _ _ _ _ _ _ _ _ _ _ h=>h,trivial⟩
    case startK13=>exact hgo.out
    case eachK13=>
     repeat' first|exact trivial|refine And.intro ?_ ?_
     ·intro w L f hC hLi hLd hLn ⟨d,_⟩;refine au.live rfl ?_;exact aj (v:=f 7) rfl (hC) (fun _ _=>rfl) d
     ·intro w L f hC hLi hLd hLn ⟨a,_⟩;change _=_ at a;refine au.live rfl ?_;have hw:=hC.a (hLn 6 (by simp));rw[hw];have hC:=hw▸hC;obtain⟨ev,ec,ef⟩:=evs f;refine aj ?_ hC (fun _ _=>rfl) rfl;go_simp
     ·intro w L f hC hLi hLd hLn ⟨d,_⟩;refine au.live rfl ?_;exact aj (v:=f 7) rfl (hC) (fun _ _=>rfl) d
     iterate 2 (intro w L f hC hLi hLd hLn ⟨a,_⟩;change _=_ at a;refine au.live rfl ?_;obtain⟨ev,ec,ef⟩:=evs f;refine aj ?_ hC (fun _ _=>rfl) rfl;go_simp)
     ·intro w L f hC hLi hLd hLn ⟨a,_⟩;change _=_ at a;refine au.live rfl ?_;have hw:=hC.a (hLn 6 (by simp));rw[hw];have hC:=hw▸hC;obtain⟨ev,ec,ef⟩:=evs f;refine aj ?_ hC (fun _ _=>rfl) rfl;go_simp
     ·intro w L f hC hLi hLd hLn ⟨a,b,_⟩;change _=_ at a b;refine au.live rfl ?_;have hw:=hC.a hLi;rw[hw];obtain⟨ev,ec,ef⟩:=evs f;refine aF (f:=44) (args:= #[.agg #[.map (some m)],.slice Al nE cl]) (w:=wW) (by go_simp) hcall.out ?_;rintro e w1 h1;obtain⟨v',he,h2⟩:=hMM.out e w1 h1;exact⟨v',he,⟨fun h=>absurd h (by simp[hLn 9 (by simp)]),fun h=>absurd h (by simp),fun h=>absurd h (by simp[hLn 9 (by simp)])⟩,fun h=>absurd rfl h,fun _ _=>h2⟩
     iterate 2 (intro w L f hC hLi hLd hLn ⟨a,_⟩;change _=_ at a;refine au.live rfl ?_;obtain⟨ev,ec,ef⟩:=evs f;refine aj ?_ hC (fun _ _=>rfl) rfl;go_simp)
     ·intro w L f hC hLi hLd hLn ⟨a,d71,_⟩;change _=_ at a;refine au.live rfl ?_;have l6:L 6=true:=hLd 6 (by decide);have hm:=d71 l6 hLi;obtain⟨vA,vn,vc,hsh⟩:=hshape.out w _ hm;rw[hsh]at hm;obtain⟨hcell,hlt,hfz⟩:=hfact.out w _ hm;obtain⟨uo,hcell⟩:=hcell;obtain⟨ev,ec,ef⟩:=evs f;refine dK (w':=w.setCell ⟨g,k*10+8,none⟩ (.slice vA vn vc)) ?_ ⟨fun _=>by simp[l6],fun h=>absurd h (by simp[l6]),fun _=>hZ.out w _ hm⟩ (fun _ h=>absurd rfl h) trivial;go_simp
    intro x w' hC hV
    have hd:=hC.c rfl;rw[hZZ2.out]at hd;clear hC hV hcall hMM hshape hfact hZ hgo hZZ2 q8 qr qrl qgl hgW hwg;simp only[framed];obtain⟨wd,hwd⟩:∃y,y=w':=⟨_,rfl⟩;rw[←hwd]at hd⊢;clear hwd;clear wc wW;obtain⟨wc,hwc⟩:∃y,y=wd:=⟨_,rfl⟩;rw[←hwc]at hd⊢;have hLc:=Za hd;clear hwc hd ZZ MM
    have hfin:Hid (LS m K r g n (kX w S g) (jY K l (k+1)) w wc):=Za (hLc.out.congr fun j hj=>by
     by_cases e:j=k
     ·rw[if_pos e,e];unfold jY;rw[if_pos (by omega),xH.out,hh2'.out];rfl
     ·rw[if_neg e];unfold jY;by_cases h1:j<k
      ·rw[if_pos h1,if_pos (by omega)]
      ·rw[if_neg h1,if_neg (by omega)])
    clear hLc;go_wp2_with fail;exact⟨⟨k+1,by omega,by simp,hfin⟩,by simp[intOf];omega⟩
  ·obtain rfl:k=n:=by omega
   obtain⟨cs,hr⟩:=hL.out.row
   have hlast:Hid (aQ wl (fun x=>S x∨w.heap.size≤x) (dI K l) (.slice (some ⟨g,0,none⟩) k cap)):=Za ((hr.sl (l:=dI K l) (by rw[←iQ,jM,List.length_map,iQ,←hn2.out]) (fun j hj=>by
    have hj2:j<l.elems.length:=by rw[jM,List.length_map]at hj;exact hj
    have hjk:j<k:=by rw[hn2.out,←iQ];exact hj2
    unfold jY;rw[if_pos hjk];simp only[jM,List.getElem_map]
    simp[List.getD_eq_getElem?_getD,List.getElem?_eq_getElem hj2]) hlen hcap).mono fun x hx hh=>by
     have h2:=hg.out;have h3:=hrB.out;rcases hh with(hh|hh)|hh
     ·exact .inl hh.2
     ·exact .inr (by omega)
     ·exact .inr (by omega))
   have hB3:Hid (Below w.heap.size w wl):=Za hL.out.rs.bl;clear hL hr;go_wp2_with fail;go_ret;exact⟨_,rfl,hlast.out,hB3.out⟩
theorem uj (m:Nat) (K:List UInt8→Nat):∀(N:Nat) (l:Sl),l.dep≤N→RLs m K l
 |0,l,hN=>qZ m K l fun l' h=>absurd h (by omega)
 |N+1,l,hN=>qZ m K l fun l' h=>uj m K N l' (by omega)
def PS.Few (s:PS):Prop:=s.n≤201∧(s.e=0→s.n≤200)
def jG (f:Nat) (m:Nat) (F:PC→PS→Sl×PS):Prop:=∀(C:PC) (L:PL) (w:World) (s:PS),PAt C L s w→m≤s.deep→s.Few→Calls Tryz.prog f #[.pointer (some ⟨L.g,0,none⟩)] w (sN C L (F C s) w)
theorem dL.near {f m:Nat} {F:PC→PS→Cn×PS} (h:dL f m F) {C:PC} {L:PL} {s:PS} {w0 w:World} {r:Cn×PS} (hM:Moved C L s w0 w) (hm:m≤s.deep) (hr:F C s=r):
  Calls Tryz.prog f #[.pointer (some ⟨L.g,0,none⟩)] w fun e w'=>∃p,e= .returned (.pointer p)∧Moved C L r.2 w0 w'∧bC w' (Ge w.heap.size) r.1 (.pointer p)∧Writes [some L.g] w w':=by
 subst hr;refine(h C L w s hM.at_ hm).mono ?_;rintro e w' ⟨p,rfl,h1,h2⟩;exact⟨p,rfl,hM.trans h1,h2,h1.wr⟩
theorem lX {w:World} {S:Nat→Prop} {l:List Ag} {v:Value} (h:aZ w S l v):∃A c,v= .slice A l.length c:=by
 obtain⟨A,c,us,e,_⟩:=h;exact⟨A,c,e⟩
theorem lJ {C:PC} {t t':List UInt8} {s:PS} (h:isF C t s=true) (hne:t≠t'):isF C t' s=false:=by
 unfold isF at h⊢
 cases hx:C.tk[s.i]? with
 |none=>simp
 |some x=>
  rw[hx]at h;simp only[Bool.and_eq_true,bne_iff_ne,beq_iff_eq]at h;simp only[Bool.and_eq_false_iff,beq_eq_false_iff_ne];exact .inr (.inr (by rw[h.2.2];exact hne))
theorem zX {w:World} {S:Nat→Prop} {e:Cn} {v:Value} (h:bC w S e v):∃p,v= .pointer p:=by
 cases e with
 |nil=>exact⟨_,h⟩
 |mk k a b p q nm=>
  obtain⟨g,va,vb,vp,vq,e,_⟩:=h;exact⟨_,e⟩
def iH:Array Value:= #[.int .i64 0,.string ⟨#[]⟩,.string ⟨#[]⟩,.pointer none,.pointer none,.pointer none,.slice none 0 0,.slice none 0 0,.slice none 0 0,.int .i64 0]
theorem Moved.one {C:PC} {L:PL} {s:PS} {w0 w:World} (h:Moved C L s w0 w) (hn:s.n≤999):Moved C L s.one w0 (w.setCell ⟨L.g,6,none⟩ (.int .i64 ((s.n:Int)+1))):=by
 refine h.store 6 _ ?_ ⟨h.at_.ok.i,by simp only[PS.one];omega,h.at_.ok.at_,h.at_.ok.e,h.at_.ok.deep⟩;simp[PS.cells,PS.one]
theorem Ap (m:Nat) (sum:PC→PS→Ex×PS) (cond:PC→PS→Cn×PS) (block:PC→PS→Sl×PS) (hsum:dG 130 m sum) (hcond:dL 131 m cond) (pK:jG 132 m block)
  (hs:∀C s,Stp C s (sum C s).2) (hc:∀C s,Stp C s (cond C s).2) (hb:∀C s,Stp C s (block C s).2) (C:PC) (Z:PL) (w:World) (s:PS) (hP:PAt C Z s w) (hm:m≤s.deep) (hn:s.n≤200):
  Calls Tryz.prog 81 #[.pointer (some ⟨Z.g,0,none⟩)] w (iD C Z (fV C (sum C) (cond C) (block C) s) w):=by
 obtain⟨b1,b2,b3,b4,b5,b6,b7⟩:=hP.bounds;have hz0:=hP.lt;obtain⟨R,hR⟩:∃y,y=fV C (sum C) (cond C) (block C) s:=⟨_,rfl⟩;rw[←hR];obtain⟨w1,hw1⟩:∃ww,ww=w.alloc (.cells iH 63):=⟨_,rfl⟩;obtain⟨wa,hwa⟩:∃ww,ww=w1.alloc (.cells ((hd0 s.n).cells (.pointer none) (.pointer none) (.pointer none) (.slice none 0 0) (.slice none 0 0) (.slice none 0 0)) 63):=⟨_,rfl⟩;obtain⟨gr,FZ⟩:∃x,x=w.heap.size:=⟨_,rfl⟩;obtain⟨gs,Gt⟩:∃x,x=w1.heap.size:=⟨_,rfl⟩
 have hz1:w1.heap.size=w.heap.size+1:=by rw[hw1];simp
 have hza:wa.heap.size=w1.heap.size+1:=by rw[hwa];simp
 have hb1:Below w.heap.size w w1:=by rw[hw1];exact aA w _
 have hb2:Below w1.heap.size w1 wa:=by rw[hwa];exact aA w1 _
 have hba:=Za (hb1.trans (hb2.mono hb1.size));have hgr:Hid (Holds wa gr 63 iH):=Za (by rw[FZ];exact(show Holds w1 w.heap.size 63 iH by rw[hw1];exact Holds.new w _ _).below hb2 (by omega))
 have hVa:Hid (VS C Z gs s ((hd0 s.n).cells (.pointer none) (.pointer none) (.pointer none) (.slice none 0 0) (.slice none 0 0) (.slice none 0 0)) wa wa):=
  Za ⟨(hP.up hb1).up hb2,Writes.refl _ _,by rw[Gt,hwa];exact Holds.new w1 _ _,by omega,by omega⟩
 have hgr0:w.heap.size≤gr:=by omega
 have hgs0:w.heap.size≤gs:=by omega
 have tu:gr<wa.heap.size:=by omega
 have hne:gr≠gs:=by omega
 have hzg:Z.g<gr:=by omega
 have hltz:Z.g<wa.heap.size:=by omega
 have hlow:gs<wa.heap.size:=by omega
 have hn1:(hd0 s.n).at_≤201:=by simp only[hd0];omega
 obtain⟨kn,hkn⟩:∃y,y=gJ C s:=⟨_,rfl⟩;replace hkn:=Za hkn;obtain⟨a0,d0,d1,d2,d3,d4,d5,d6,dfz⟩:=hP.facts;clear hb1 hb2 hP;go_enter Tryz.func81,Tryz.ntmps81;go_upto_region 2 with(fail);rw[show((w.alloc (.cells #[.int .i64 0,.string ⟨#[]⟩,.string ⟨#[]⟩,.pointer none,.pointer none,.pointer none,.slice none 0 0,.slice none 0 0,.slice none 0 0,.int .i64 0] 63)).alloc (.cells #[.int .i64 0,.string ⟨#[]⟩,.string ⟨#[]⟩,.pointer none,.pointer none,.pointer none,.slice none 0 0,.slice none 0 0,.slice none 0 0,.int .i64 s.n] 63))=wa from by rw[hwa,hw1];rfl];rw[show w.heap.size+1=gs from by omega,show w.heap.size=gr from FZ.symm];clear hwa hw1 FZ Gt hz1 hza;go_cut [4] (fun kv wc=>kv= .bool kn∧Hid (Moved C Z s wa wc))
 case first=>
  clear a0 d0 d1 d2 d3 d4 d5 d6 dfz
  cases k0:cu C s with
  |true=>
   have hN2:Hid (kn=true):=Za (by rw[hkn.out];unfold gJ;rw[k0];simp);replace k0:=Za k0;go_wp2_with fail;refine(aX hVa.out.mv k0.out).mono ?_;rintro e v0 ⟨rfl,g0,-⟩;replace g0:=Za g0;go_wp2_with fail
   go_meet
   case rel=>exact⟨by rw[hN2.out],g0⟩
  |false=>
   cases k1:isF C [42] s with
   |true=>
    have hN2:Hid (kn=true):=Za (by rw[hkn.out];unfold gJ;rw[k0,k1];simp);replace k0:=Za k0;replace k1:=Za k1;go_wp2_with fail;refine(aX hVa.out.mv k0.out).mono ?_;rintro e v0 ⟨rfl,g0,-⟩;replace g0:=Za g0;go_wp2_with fail;refine(aG g0.out [42] k1.out).mono ?_;rintro e v1 ⟨rfl,g1,-⟩;replace g1:=Za g1;go_wp2_with fail
    go_meet
    case rel=>exact⟨by rw[hN2.out],g1⟩
   |false=>
    cases k2:isF C [114,101,116,117,114,110] s with
    |true=>
     have hN2:Hid (kn=true):=Za (by rw[hkn.out];unfold gJ;rw[k0,k1,k2];simp);replace k0:=Za k0;replace k1:=Za k1;replace k2:=Za k2;go_wp2_with fail;refine(aX hVa.out.mv k0.out).mono ?_;rintro e v0 ⟨rfl,g0,-⟩;replace g0:=Za g0;go_wp2_with fail;refine(aG g0.out [42] k1.out).mono ?_;rintro e v1 ⟨rfl,g1,-⟩;replace g1:=Za g1;go_wp2_with fail;refine(aG g1.out [114,101,116,117,114,110] k2.out).mono ?_;rintro e v2 ⟨rfl,g2,-⟩;replace g2:=Za g2;go_wp2_with fail
     go_meet
     case rel=>exact⟨by rw[hN2.out],g2⟩
    |false=>
     cases k3:isF C [97,115,115,101,114,116] s with
     |true=>
      have hN2:Hid (kn=true):=Za (by rw[hkn.out];unfold gJ;rw[k0,k1,k2,k3];simp);replace k0:=Za k0;replace k1:=Za k1;replace k2:=Za k2;replace k3:=Za k3;go_wp2_with fail;refine(aX hVa.out.mv k0.out).mono ?_;rintro e v0 ⟨rfl,g0,-⟩;replace g0:=Za g0;go_wp2_with fail;refine(aG g0.out [42] k1.out).mono ?_;rintro e v1 ⟨rfl,g1,-⟩;replace g1:=Za g1;go_wp2_with fail;refine(aG g1.out [114,101,116,117,114,110] k2.out).mono ?_;rintro e v2 ⟨rfl,g2,-⟩;replace g2:=Za g2;go_wp2_with fail;refine(aG g2.out [97,115,115,101,114,116] k3.out).mono ?_;rintro e v3 ⟨rfl,g3,-⟩;replace g3:=Za g3;go_wp2_with fail
      go_meet
      case rel=>exact⟨by rw[hN2.out],g3⟩
     |false=>
      cases k4:isF C [105,102] s with
      |true=>
       have hN2:Hid (kn=true):=Za (by rw[hkn.out];unfold gJ;rw[k0,k1,k2,k3,k4];simp);replace k0:=Za k0;replace k1:=Za k1;replace k2:=Za k2;replace k3:=Za k3;replace k4:=Za k4;go_wp2_with fail;refine(aX hVa.out.mv k0.out).mono ?_;rintro e v0 ⟨rfl,g0,-⟩;replace g0:=Za g0;go_wp2_with fail;refine(aG g0.out [42] k1.out).mono ?_;rintro e v1 ⟨rfl,g1,-⟩;replace g1:=Za g1;go_wp2_with fail;refine(aG g1.out [114,101,116,117,114,110] k2.out).mono ?_;rintro e v2 ⟨rfl,g2,-⟩;replace g2:=Za g2;go_wp2_with fail;refine(aG g2.out [97,115,115,101,114,116] k3.out).mono ?_;rintro e v3 ⟨rfl,g3,-⟩;replace g3:=Za g3;go_wp2_with fail;refine(aG g3.out [105,102] k4.out).mono ?_;rintro e v4 ⟨rfl,g4,-⟩;replace g4:=Za g4;go_wp2_with fail
       go_meet
       case rel=>exact⟨by rw[hN2.out],g4⟩
      |false=>
       cases k5:isF C [119,104,105,108,101] s with
       |true=>
        have hN2:Hid (kn=true):=Za (by rw[hkn.out];unfold gJ;rw[k0,k1,k2,k3,k4,k5];simp);replace k0:=Za k0;replace k1:=Za k1;replace k2:=Za k2;replace k3:=Za k3;replace k4:=Za k4;replace k5:=Za k5;go_wp2_with fail;refine(aX hVa.out.mv k0.out).mono ?_;rintro e v0 ⟨rfl,g0,-⟩;replace g0:=Za g0;go_wp2_with fail;refine(aG g0.out [42] k1.out).mono ?_;rintro e v1 ⟨rfl,g1,-⟩;replace g1:=Za g1;go_wp2_with fail;refine(aG g1.out [114,101,116,117,114,110] k2.out).mono ?_;rintro e v2 ⟨rfl,g2,-⟩;replace g2:=Za g2;go_wp2_with fail;refine(aG g2.out [97,115,115,101,114,116] k3.out).mono ?_;rintro e v3 ⟨rfl,g3,-⟩;replace g3:=Za g3;go_wp2_with fail;refine(aG g3.out [105,102] k4.out).mono ?_;rintro e v4 ⟨rfl,g4,-⟩;replace g4:=Za g4;go_wp2_with fail;refine(aG g4.out [119,104,105,108,101] k5.out).mono ?_;rintro e v5 ⟨rfl,g5,-⟩;replace g5:=Za g5;go_wp2_with fail
        go_meet
        case rel=>exact⟨by rw[hN2.out],g5⟩
       |false=>
        have hN2:Hid (kn=false):=Za (by rw[hkn.out];unfold gJ;rw[k0,k1,k2,k3,k4,k5];rfl);replace k0:=Za k0;replace k1:=Za k1;replace k2:=Za k2;replace k3:=Za k3;replace k4:=Za k4;replace k5:=Za k5;go_wp2_with fail;refine(aX hVa.out.mv k0.out).mono ?_;rintro e v0 ⟨rfl,g0,-⟩;replace g0:=Za g0;go_wp2_with fail;refine(aG g0.out [42] k1.out).mono ?_;rintro e v1 ⟨rfl,g1,-⟩;replace g1:=Za g1;go_wp2_with fail;refine(aG g1.out [114,101,116,117,114,110] k2.out).mono ?_;rintro e v2 ⟨rfl,g2,-⟩;replace g2:=Za g2;go_wp2_with fail;refine(aG g2.out [97,115,115,101,114,116] k3.out).mono ?_;rintro e v3 ⟨rfl,g3,-⟩;replace g3:=Za g3;go_wp2_with fail;refine(aG g3.out [105,102] k4.out).mono ?_;rintro e v4 ⟨rfl,g4,-⟩;replace g4:=Za g4;go_wp2_with fail;refine(aG g4.out [119,104,105,108,101] k5.out).mono ?_;rintro e v5 ⟨rfl,g5,-⟩;replace g5:=Za g5;go_wp2_with fail
        go_meet
        case rel=>exact⟨by rw[hN2.out],g5⟩
 case rest=>
  obtain⟨rfl,hg⟩:=hcut;have hV0:=hVa.out.call hg.out;obtain⟨w0,hw0⟩:∃ww,ww=wc:=⟨_,rfl⟩;rw[←hw0]at hV0⊢;clear hg hw0 a0 d0 d1 d2 d3 d4 d5 d6 dfz;obtain⟨a0,d0,d1,d2,d3,d4,d5,d6,dfz⟩:=hV0.mv.facts;replace hV0:=Za hV0;by_cases rO:kn=true∧200≤s.n
  case pos=>
   have hkv:=rO.1
   have h200:(200:Int)≤(s.n:Int):=by have:=rO.2;omega
   have hF:Hid (R=((hd0 s.n,.nil,.nil),bT C 53 s)):=Za (by rw[hR];unfold fV;rw[if_pos (by rw[←hkn.out,hkv,decide_eq_true rO.2];rfl)]);subst hkv;clear rO hR;go_wp2_with fail;refine(fF hV0.out.mv 53 (by decide) rfl).mono ?_;rintro e w2 ⟨rfl,q,-⟩;have V2:=Za (hV0.out.call q);clear q a0 d0 d1 d2 d3 d4 d5 d6 dfz;obtain⟨fl,fz⟩:=V2.out.facts;have f0:w2.cell? ⟨gs,0,none⟩=some (.int .i64 0):=V2.out.fact 0 rfl;have f1:w2.cell? ⟨gs,1,none⟩=some (.string ⟨#[]⟩):=V2.out.fact 1 rfl;have f2:w2.cell? ⟨gs,2,none⟩=some (.string ⟨#[]⟩):=V2.out.fact 2 rfl;have f3:w2.cell? ⟨gs,3,none⟩=some (.pointer none):=V2.out.fact 3 rfl;have f4:w2.cell? ⟨gs,4,none⟩=some (.pointer none):=V2.out.fact 4 rfl;have f5:w2.cell? ⟨gs,5,none⟩=some (.pointer none):=V2.out.fact 5 rfl;have f6:w2.cell? ⟨gs,6,none⟩=some (.slice none 0 0):=V2.out.fact 6 rfl;have f7:w2.cell? ⟨gs,7,none⟩=some (.slice none 0 0):=V2.out.fact 7 rfl;have f8:w2.cell? ⟨gs,8,none⟩=some (.slice none 0 0):=V2.out.fact 8 rfl;have f9:w2.cell? ⟨gs,9,none⟩=some (.int .i64 s.n):=V2.out.fact 9 rfl
   have hgr1:Holds w2 gr 63 iH:=V2.out.wr.holds hgr.out (by simp;omega);have g0:=hgr1.lt;have gz:=fun i=>hgr1.frozen i;have k0:w2.cell? ⟨gr,0,none⟩=some (.int .i64 0):=hgr1.cell 0;have k1:w2.cell? ⟨gr,1,none⟩=some (.string ⟨#[]⟩):=hgr1.cell 1;have k2:w2.cell? ⟨gr,2,none⟩=some (.string ⟨#[]⟩):=hgr1.cell 2;have k3:w2.cell? ⟨gr,3,none⟩=some (.pointer none):=hgr1.cell 3;have k4:w2.cell? ⟨gr,4,none⟩=some (.pointer none):=hgr1.cell 4;have k5:w2.cell? ⟨gr,5,none⟩=some (.pointer none):=hgr1.cell 5;have k6:w2.cell? ⟨gr,6,none⟩=some (.slice none 0 0):=hgr1.cell 6;have k7:w2.cell? ⟨gr,7,none⟩=some (.slice none 0 0):=hgr1.cell 7;have k8:w2.cell? ⟨gr,8,none⟩=some (.slice none 0 0):=hgr1.cell 8;have k9:w2.cell? ⟨gr,9,none⟩=some (.int .i64 0):=hgr1.cell 9;replace hgr1:=Za hgr1;go_wp2_with fail;refine fD rfl rfl rfl (cO hgr1.out _ _ _ _ _ _ _ _ _ _) Tryz.underlying63 Tryz.sStmt ?_;rw[hF.out]
   exact iD.of (h:=hd0 s.n) V2.out ⟨aJ.nil_ _ _,aJ.nil_ _ _,bC.nil_ _ _,aZ.nil_ _ _,Nat.zero_le 4096,Nat.zero_le 4096,(by decide:0≤12),hn1⟩ (aQ.nil_ _ _) (aQ.nil_ _ _) hz0 hba.out hgr0 hgs0 tu (bU _ _ _ _ _ _ _ _ _ _ _ _)
  case neg=>
   have hkf:(gJ C s&&decide (200≤s.n))=false:=by
    rw[←hkn.out]
    cases hkv:kn with
    |false=>rfl
    |true=>rw[decide_eq_false (fun h=>rO ⟨hkv,h⟩)];rfl
   go_upto_region 3 with(fail);go_cut [4,40] (fun kv bv wd=>kv= .bool kn∧bv= .bool false∧w0=wd)
   case first=>
    cases hkv:kn with
    |false=>
     replace hkf:=Za hkf;replace hkv:=Za hkv;go_wp2_with fail
     go_meet
     case rel=>exact⟨by rw[hkv.out],rfl,rfl⟩
    |true=>
     have h200:¬(200:Int)≤(s.n:Int):=by have:¬200≤s.n:=fun h=>rO ⟨hkv,h⟩;omega
     replace hkf:=Za hkf;replace hkv:=Za hkv;go_wp2_with fail
     go_meet
     case rel=>exact⟨by rw[hkv.out],rfl,rfl⟩
   case rest=>
    obtain⟨rfl,rfl,rfl⟩:=hcut;clear rO;have hw9:IntKind.i64.wrap ((s.n:Int)+1)=(s.n:Int)+1:=IntWalk.i64_in _ (by omega);have q:=hV0.out.mv.one (by omega);obtain⟨wN,hwN⟩:∃ww,ww=w0.setCell ⟨Z.g,6,none⟩ (.int .i64 ((s.n:Int)+1)):=⟨_,rfl⟩;rw[←hwN]at q;have VN:Hid (VS C Z gs s.one #[.int .i64 0,.string ⟨#[]⟩,.string ⟨#[]⟩,.pointer none,.pointer none,.pointer none,.slice none 0 0,.slice none 0 0,.slice none 0 0,.int .i64 s.n] wa wN):=Za (hV0.out.call q);clear q;replace hkf:=Za hkf;replace hR:=Za hR;go_wp2_with fail;rw[←hwN];clear hwN a0 d0 d1 d2 d3 d4 d5 d6 dfz hw9 hV0
    cases h1:isF C [114,101,116,117,114,110] s.one with
    |true=>
     obtain⟨r,hr⟩:∃yy,yy=sum C s.one.next:=⟨_,rfl⟩;obtain⟨s5,hs5⟩:∃yy,yy=aY C [59] r.2:=⟨_,rfl⟩;have hF:Hid (R=(({hd0 s.n with k:=9,e:=r.1},.nil,.nil),s5)):=Za (by rw[hR.out,hs5,hr];unfold fV gX;simp only[hkf.out,lJ h1 (t':= [105,102]) (by decide),lJ h1 (t':= [119,104,105,108,101]) (by decide),h1];rfl);replace hr:=Za hr;replace hs5:=Za hs5;replace h1:=Za h1;refine(dH VN.out.mv [114,101,116,117,114,110] h1.out rfl).mono ?_;rintro e w1 ⟨rfl,q,hW⟩;have V1:=Za (VN.out.call q);clear q hW;go_wp2_with fail;refine(hsum.near V1.out.mv hm hr.out.symm).mono ?_;rintro e w2 ⟨pr,rfl,q,hE,hW⟩;have V2:=Za (V1.out.call q);have Tr:=Za (hE.ge (B:=wa.heap.size) V1.out.wr.size);clear q hW hE;obtain⟨fl,fz⟩:=V2.out.facts;have f0:w2.cell? ⟨gs,0,none⟩=some (.int .i64 0):=V2.out.fact 0 rfl;have f3:w2.cell? ⟨gs,3,none⟩=some (.pointer none):=V2.out.fact 3 rfl
     have V3:VS C Z gs (r.2) #[.int .i64 9,.string ⟨#[]⟩,.string ⟨#[]⟩,.pointer pr,.pointer none,.pointer none,.slice none 0 0,.slice none 0 0,.slice none 0 0,.int .i64 s.n] wa ((w2.setCell ⟨gs,0,none⟩ (.int .i64 9)).setCell ⟨gs,3,none⟩ (.pointer pr)):=((V2.out.store 0 (.int .i64 9)).store 3 (.pointer pr));obtain⟨w3,hw3⟩:∃ww,ww=((w2.setCell ⟨gs,0,none⟩ (.int .i64 9)).setCell ⟨gs,3,none⟩ (.pointer pr)):=⟨_,rfl⟩;rw[←hw3]at V3;replace V3:=Za V3;have Tr_3:=((Tr.out.st hlow 0 (.int .i64 9)).st hlow 3 (.pointer pr));rw[←hw3]at Tr_3;replace Tr_3:=Za Tr_3;go_wp2_with fail;rw[←hw3];clear hw3 fl fz f0 f3;refine(bf V3.out.mv [59] hs5.out.symm).mono ?_;rintro e w4 ⟨rfl,q,hW⟩;have V4:=Za (V3.out.call q);have Tr_4:=Za (Tr_3.out.pw hW hltz);clear q hW;obtain⟨fl,fz⟩:=V4.out.facts;have f0:w4.cell? ⟨gs,0,none⟩=some (.int .i64 9):=V4.out.fact 0 rfl;have f1:w4.cell? ⟨gs,1,none⟩=some (.string ⟨#[]⟩):=V4.out.fact 1 rfl;have f2:w4.cell? ⟨gs,2,none⟩=some (.string ⟨#[]⟩):=V4.out.fact 2 rfl;have f3:w4.cell? ⟨gs,3,none⟩=some (.pointer pr):=V4.out.fact 3 rfl
     have f4:w4.cell? ⟨gs,4,none⟩=some (.pointer none):=V4.out.fact 4 rfl;have f5:w4.cell? ⟨gs,5,none⟩=some (.pointer none):=V4.out.fact 5 rfl;have f6:w4.cell? ⟨gs,6,none⟩=some (.slice none 0 0):=V4.out.fact 6 rfl;have f7:w4.cell? ⟨gs,7,none⟩=some (.slice none 0 0):=V4.out.fact 7 rfl;have f8:w4.cell? ⟨gs,8,none⟩=some (.slice none 0 0):=V4.out.fact 8 rfl;have f9:w4.cell? ⟨gs,9,none⟩=some (.int .i64 s.n):=V4.out.fact 9 rfl;have hgr1:Holds w4 gr 63 iH:=V4.out.wr.holds hgr.out (by simp;omega);have g0:=hgr1.lt;have gz:=fun i=>hgr1.frozen i;have k0:w4.cell? ⟨gr,0,none⟩=some (.int .i64 0):=hgr1.cell 0;have k1:w4.cell? ⟨gr,1,none⟩=some (.string ⟨#[]⟩):=hgr1.cell 1;have k2:w4.cell? ⟨gr,2,none⟩=some (.string ⟨#[]⟩):=hgr1.cell 2;have k3:w4.cell? ⟨gr,3,none⟩=some (.pointer none):=hgr1.cell 3;have k4:w4.cell? ⟨gr,4,none⟩=some (.pointer none):=hgr1.cell 4;have k5:w4.cell? ⟨gr,5,none⟩=some (.pointer none):=hgr1.cell 5;have k6:w4.cell? ⟨gr,6,none⟩=some (.slice none 0 0):=hgr1.cell 6;have k7:w4.cell? ⟨gr,7,none⟩=some (.slice none 0 0):=hgr1.cell 7
     have k8:w4.cell? ⟨gr,8,none⟩=some (.slice none 0 0):=hgr1.cell 8;have k9:w4.cell? ⟨gr,9,none⟩=some (.int .i64 0):=hgr1.cell 9;replace hgr1:=Za hgr1;go_wp2_with fail;refine fD rfl rfl rfl (cO hgr1.out _ _ _ _ _ _ _ _ _ _) Tryz.underlying63 Tryz.sStmt ?_;rw[hF.out];exact iD.of (h:={hd0 s.n with k:=9,e:=r.1}) V4.out ⟨Tr_4.out,aJ.nil_ _ _,bC.nil_ _ _,aZ.nil_ _ _,Nat.zero_le 4096,Nat.zero_le 4096,(by decide:9≤12),hn1⟩ (aQ.nil_ _ _) (aQ.nil_ _ _) hz0 hba.out hgr0 hgs0 tu (bU _ _ _ _ _ _ _ _ _ _ _ _)
    |false=>
     cases h2:isF C [97,115,115,101,114,116] s.one with
     |true=>
      obtain⟨s2,hs2⟩:∃yy,yy=aY C [40] s.one.next:=⟨_,rfl⟩;obtain⟨r,hr⟩:∃yy,yy=cond C s2:=⟨_,rfl⟩;obtain⟨s4,hs4⟩:∃yy,yy=aY C [41] r.2:=⟨_,rfl⟩;obtain⟨s5,hs5⟩:∃yy,yy=aY C [59] s4:=⟨_,rfl⟩;have hF:Hid (R=(({hd0 s.n with k:=12,c:=r.1},.nil,.nil),s5)):=Za (by rw[hR.out,hs5,hs4,hr,hs2];unfold fV gX;simp only[hkf.out,lJ h2 (t':= [105,102]) (by decide),lJ h2 (t':= [119,104,105,108,101]) (by decide),h1,h2];rfl)
      have hm2:m≤s2.deep:=by rw[hs2,(Stp.want _ _).dp];exact hm
      replace hs2:=Za hs2;replace hr:=Za hr;replace hs4:=Za hs4;replace hs5:=Za hs5;replace h1:=Za h1;replace h2:=Za h2;refine(bg VN.out.mv [114,101,116,117,114,110] h1.out).mono ?_;rintro e w1 ⟨rfl,q,hW⟩;have V1:=Za (VN.out.call q);clear q hW;go_wp2_with fail;refine(dH V1.out.mv [97,115,115,101,114,116] h2.out rfl).mono ?_;rintro e w2 ⟨rfl,q,hW⟩;have V2:=Za (V1.out.call q);clear q hW;go_wp2_with fail;refine(bf V2.out.mv [40] hs2.out.symm).mono ?_;rintro e w3 ⟨rfl,q,hW⟩;have V3:=Za (V2.out.call q);clear q hW;go_wp2_with fail;refine(hcond.near V3.out.mv hm2 hr.out.symm).mono ?_;rintro e w4 ⟨pr,rfl,q,hE,hW⟩;have V4:=Za (V3.out.call q);have Tr:=Za (hE.ge (B:=wa.heap.size) V3.out.wr.size);clear q hW hE;obtain⟨fl,fz⟩:=V4.out.facts;have f0:w4.cell? ⟨gs,0,none⟩=some (.int .i64 0):=V4.out.fact 0 rfl;have f5:w4.cell? ⟨gs,5,none⟩=some (.pointer none):=V4.out.fact 5 rfl
      have V5:VS C Z gs (r.2) #[.int .i64 12,.string ⟨#[]⟩,.string ⟨#[]⟩,.pointer none,.pointer none,.pointer pr,.slice none 0 0,.slice none 0 0,.slice none 0 0,.int .i64 s.n] wa ((w4.setCell ⟨gs,0,none⟩ (.int .i64 12)).setCell ⟨gs,5,none⟩ (.pointer pr)):=((V4.out.store 0 (.int .i64 12)).store 5 (.pointer pr));obtain⟨w5,hw5⟩:∃ww,ww=((w4.setCell ⟨gs,0,none⟩ (.int .i64 12)).setCell ⟨gs,5,none⟩ (.pointer pr)):=⟨_,rfl⟩;rw[←hw5]at V5;replace V5:=Za V5;have Tr_5:=((Tr.out.st hlow 0 (.int .i64 12)).st hlow 5 (.pointer pr));rw[←hw5]at Tr_5;replace Tr_5:=Za Tr_5;go_wp2_with fail;rw[←hw5];clear hw5 fl fz f0 f5;refine(bf V5.out.mv [41] hs4.out.symm).mono ?_;rintro e w6 ⟨rfl,q,hW⟩;have V6:=Za (V5.out.call q);have Tr_6:=Za (Tr_5.out.pw hW hltz);clear q hW;go_wp2_with fail;refine(bf V6.out.mv [59] hs5.out.symm).mono ?_;rintro e w7 ⟨rfl,q,hW⟩;have V7:=Za (V6.out.call q);have Tr_7:=Za (Tr_6.out.pw hW hltz);clear q hW;obtain⟨fl,fz⟩:=V7.out.facts;have f0:w7.cell? ⟨gs,0,none⟩=some (.int .i64 12):=V7.out.fact 0 rfl;have f1:w7.cell? ⟨gs,1,none⟩=some (.string ⟨#[]⟩):=V7.out.fact 1 rfl
      have f2:w7.cell? ⟨gs,2,none⟩=some (.string ⟨#[]⟩):=V7.out.fact 2 rfl;have f3:w7.cell? ⟨gs,3,none⟩=some (.pointer none):=V7.out.fact 3 rfl;have f4:w7.cell? ⟨gs,4,none⟩=some (.pointer none):=V7.out.fact 4 rfl;have f5:w7.cell? ⟨gs,5,none⟩=some (.pointer pr):=V7.out.fact 5 rfl;have f6:w7.cell? ⟨gs,6,none⟩=some (.slice none 0 0):=V7.out.fact 6 rfl;have f7:w7.cell? ⟨gs,7,none⟩=some (.slice none 0 0):=V7.out.fact 7 rfl;have f8:w7.cell? ⟨gs,8,none⟩=some (.slice none 0 0):=V7.out.fact 8 rfl;have f9:w7.cell? ⟨gs,9,none⟩=some (.int .i64 s.n):=V7.out.fact 9 rfl;have hgr1:Holds w7 gr 63 iH:=V7.out.wr.holds hgr.out (by simp;omega);have g0:=hgr1.lt;have gz:=fun i=>hgr1.frozen i;have k0:w7.cell? ⟨gr,0,none⟩=some (.int .i64 0):=hgr1.cell 0;have k1:w7.cell? ⟨gr,1,none⟩=some (.string ⟨#[]⟩):=hgr1.cell 1;have k2:w7.cell? ⟨gr,2,none⟩=some (.string ⟨#[]⟩):=hgr1.cell 2;have k3:w7.cell? ⟨gr,3,none⟩=some (.pointer none):=hgr1.cell 3;have k4:w7.cell? ⟨gr,4,none⟩=some (.pointer none):=hgr1.cell 4;have k5:w7.cell? ⟨gr,5,none⟩=some (.pointer none):=hgr1.cell 5
      have k6:w7.cell? ⟨gr,6,none⟩=some (.slice none 0 0):=hgr1.cell 6;have k7:w7.cell? ⟨gr,7,none⟩=some (.slice none 0 0):=hgr1.cell 7;have k8:w7.cell? ⟨gr,8,none⟩=some (.slice none 0 0):=hgr1.cell 8;have k9:w7.cell? ⟨gr,9,none⟩=some (.int .i64 0):=hgr1.cell 9;replace hgr1:=Za hgr1;go_wp2_with fail;refine fD rfl rfl rfl (cO hgr1.out _ _ _ _ _ _ _ _ _ _) Tryz.underlying63 Tryz.sStmt ?_;rw[hF.out];exact iD.of (h:={hd0 s.n with k:=12,c:=r.1}) V7.out ⟨aJ.nil_ _ _,aJ.nil_ _ _,Tr_7.out,aZ.nil_ _ _,Nat.zero_le 4096,Nat.zero_le 4096,(by decide:12≤12),hn1⟩ (aQ.nil_ _ _) (aQ.nil_ _ _) hz0 hba.out hgr0 hgs0 tu (bU _ _ _ _ _ _ _ _ _ _ _ _)
     |false=>
      cases hif:isF C [105,102] s.one with
      |true=>
       obtain⟨s2,hs2⟩:∃yy,yy=aY C [40] s.one.next:=⟨_,rfl⟩;obtain⟨c,hc0⟩:∃yy,yy=cond C s2:=⟨_,rfl⟩;obtain⟨s3,hs3⟩:∃yy,yy=aY C [41] c.2:=⟨_,rfl⟩;obtain⟨bt,hbt⟩:∃yy,yy=block C s3:=⟨_,rfl⟩
       have hkn2:¬200≤s.n:=fun h=>by have:=hkf.out;rw[decide_eq_true h,Bool.and_true]at this;unfold gJ at this;rw[show isF C [105,102] s=true from hif]at this;simp at this
       have hi:=dD hif
       have hm2:m≤s2.deep:=by rw[hs2,(Stp.want _ _).dp];exact hm
       have hm3:m≤s3.deep:=by rw[hs3,(Stp.want _ _).dp,hc0,(hc C _).dp];exact hm2
       have hst3:Stp C s.one s3:=by rw[hs3,hc0,hs2];exact(((Stp.is_ hif).trans (Stp.want _ _)).trans (hc C _)).trans (Stp.want _ _)
       have hfew3:s3.Few:=hst3.nn ⟨by simp only[PS.one];omega,fun _=>by simp only[PS.one];omega⟩
       have D6:bt.2.Few:=by rw[hbt];exact(hb C s3).nn hfew3
       have hmb:m≤bt.2.deep:=by rw[hbt,(hb C s3).dp];exact hm3
       have hwh:=lJ hif (t':= [119,104,105,108,101]) (by decide);replace hfew3:=Za hfew3
       cases hel:isF C [101,108,115,101] bt.2 with
       |true=>
        obtain⟨be,hbe⟩:∃yy,yy=block C bt.2.next:=⟨_,rfl⟩;have hF:Hid (R=(({hd0 s.n with k:=10,c:=c.1},bt.1,be.1),be.2)):=Za (by rw[hR.out,hbe];unfold fV iG;simp only[hkf.out,hif,←hs2,←hc0,←hs3,←hbt,hel];rfl);have GI:Hid (bt.2.next.Few):=Za ((Stp.is_ hel).nn D6);replace hbe:=Za hbe;replace h1:=Za h1;replace h2:=Za h2;replace hif:=Za hif;replace hwh:=Za hwh;replace hel:=Za hel;replace hs2:=Za hs2;replace hc0:=Za hc0;replace hs3:=Za hs3;replace hbt:=Za hbt;clear D6 hst3;refine(bg VN.out.mv [114,101,116,117,114,110] h1.out).mono ?_;rintro e w1 ⟨rfl,q,hW⟩;have V1:=Za (VN.out.call q);clear q hW;go_wp2_with fail;refine(bg V1.out.mv [97,115,115,101,114,116] h2.out).mono ?_;rintro e w2 ⟨rfl,q,hW⟩;have V2:=Za (V1.out.call q);clear q hW;go_wp2_with fail;refine(aG V2.out.mv [105,102] hif.out).mono ?_;rintro e w3 ⟨rfl,q,hW⟩;have V3:=Za (V2.out.call q);clear q hW;obtain⟨fl,fz⟩:=V3.out.facts;have f0:w3.cell? ⟨gs,0,none⟩=some (.int .i64 0):=V3.out.fact 0 rfl
        have V4:VS C Z gs (s.one) #[.int .i64 10,.string ⟨#[]⟩,.string ⟨#[]⟩,.pointer none,.pointer none,.pointer none,.slice none 0 0,.slice none 0 0,.slice none 0 0,.int .i64 s.n] wa (w3.setCell ⟨gs,0,none⟩ (.int .i64 10)):=(V3.out.store 0 (.int .i64 10));obtain⟨w4,hw4⟩:∃ww,ww=(w3.setCell ⟨gs,0,none⟩ (.int .i64 10)):=⟨_,rfl⟩;rw[←hw4]at V4;replace V4:=Za V4;go_wp2_with fail;rw[←hw4];clear hw4 fl fz f0;refine(aG V4.out.mv [119,104,105,108,101] hwh.out).mono ?_;rintro e w5 ⟨rfl,q,hW⟩;have V5:=Za (V4.out.call q);clear q hW;obtain⟨a0,d0,d1,d2,d3,d4,d5,d6,dfz⟩:=V5.out.mv.facts;have hi5:=V5.out.at_.bounds.2.2.1;have hw9:=dh (i:=(s.one).i) (by omega);have q:=V5.out.mv.next hi;have hW:Writes [some Z.g] w5 _:=q.wr;obtain⟨w6,hw6⟩:∃ww,ww=w5.setCell ⟨Z.g,1,none⟩ (.int .i64 (((s.one).i:Int)+1)):=⟨_,rfl⟩;rw[←hw6]at q hW;have V6:=Za (V5.out.call q);clear q hW hi5;go_wp2_with fail;rw[←hw6];clear hw6 a0 d0 d1 d2 d3 d4 d5 d6 dfz hw9;refine(bf V6.out.mv [40] hs2.out.symm).mono ?_;rintro e w7 ⟨rfl,q,hW⟩;have V7:=Za (V6.out.call q);clear q hW;go_wp2_with fail
        refine(hcond.near V7.out.mv hm2 hc0.out.symm).mono ?_;rintro e w8 ⟨pc,rfl,q,hE,hW⟩;have V8:=Za (V7.out.call q);have Tc:=Za (hE.ge (B:=wa.heap.size) V7.out.wr.size);clear q hW hE;obtain⟨fl,fz⟩:=V8.out.facts;have f5:w8.cell? ⟨gs,5,none⟩=some (.pointer none):=V8.out.fact 5 rfl;have V9:VS C Z gs (c.2) #[.int .i64 10,.string ⟨#[]⟩,.string ⟨#[]⟩,.pointer none,.pointer none,.pointer pc,.slice none 0 0,.slice none 0 0,.slice none 0 0,.int .i64 s.n] wa (w8.setCell ⟨gs,5,none⟩ (.pointer pc)):=(V8.out.store 5 (.pointer pc));obtain⟨w9,hw9⟩:∃ww,ww=(w8.setCell ⟨gs,5,none⟩ (.pointer pc)):=⟨_,rfl⟩;rw[←hw9]at V9;replace V9:=Za V9;have Tc_9:=(Tc.out.st hlow 5 (.pointer pc));rw[←hw9]at Tc_9;replace Tc_9:=Za Tc_9;go_wp2_with fail;rw[←hw9];clear hw9 fl fz f5;refine(bf V9.out.mv [41] hs3.out.symm).mono ?_;rintro e w10 ⟨rfl,q,hW⟩;have V10:=Za (V9.out.call q);have Tc_10:=Za (Tc_9.out.pw hW hltz);clear q hW;go_wp2_with fail;have hcc:=pK C Z _ s3 V10.out.at_ hm3 hfew3.out;rw[←hbt.out]at hcc;refine hcc.mono ?_;clear hcc;rintro e w11 ⟨vbt,rfl,q,hE⟩;have hW:=q.wr;have V11:=Za (V10.out.call q)
        have Tc_11:=Za (Tc_10.out.pw hW hltz);have Tbt:=hE.ge (B:=wa.heap.size) V10.out.wr.size;obtain⟨Abt,cbt,ev⟩:=aQ.jr Tbt;rw[ev]at Tbt⊢;replace Tbt:=Za Tbt;clear q hW hE ev;obtain⟨fl,fz⟩:=V11.out.facts;have f0:w11.cell? ⟨gs,0,none⟩=some (.int .i64 10):=V11.out.fact 0 rfl;have f7:w11.cell? ⟨gs,7,none⟩=some (.slice none 0 0):=V11.out.fact 7 rfl;have V12:VS C Z gs (bt.2) #[.int .i64 10,.string ⟨#[]⟩,.string ⟨#[]⟩,.pointer none,.pointer none,.pointer pc,.slice none 0 0,.slice Abt bt.1.len cbt,.slice none 0 0,.int .i64 s.n] wa (w11.setCell ⟨gs,7,none⟩ (.slice Abt bt.1.len cbt)):=(V11.out.store 7 (.slice Abt bt.1.len cbt));obtain⟨w12,hw12⟩:∃ww,ww=(w11.setCell ⟨gs,7,none⟩ (.slice Abt bt.1.len cbt)):=⟨_,rfl⟩;rw[←hw12]at V12;replace V12:=Za V12;have Tc_12:=(Tc_11.out.st hlow 7 (.slice Abt bt.1.len cbt));rw[←hw12]at Tc_12;replace Tc_12:=Za Tc_12;have Tbt_12:=(Tbt.out.st hlow 7 (.slice Abt bt.1.len cbt));rw[←hw12]at Tbt_12;replace Tbt_12:=Za Tbt_12;go_wp2_with fail;rw[←hw12];clear hw12 fl fz f0 f7;refine(dH V12.out.mv [101,108,115,101] hel.out rfl).mono ?_;rintro e w13 ⟨rfl,q,hW⟩
        have V13:=Za (V12.out.call q);have Tc_13:=Za (Tc_12.out.pw hW hltz);have Tbt_13:=Za (Tbt_12.out.pw hW hltz);clear q hW;go_wp2_with fail;have hcc:=pK C Z _ bt.2.next V13.out.at_ hmb GI.out;rw[←hbe.out]at hcc;refine hcc.mono ?_;clear hcc;rintro e w14 ⟨vbe,rfl,q,hE⟩;have hW:=q.wr;have V14:=Za (V13.out.call q);have Tc_14:=Za (Tc_13.out.pw hW hltz);have Tbt_14:=Za (Tbt_13.out.pw hW hltz);have Tbe:=hE.ge (B:=wa.heap.size) V13.out.wr.size;obtain⟨Abe,cbe,ev⟩:=aQ.jr Tbe;rw[ev]at Tbe⊢;replace Tbe:=Za Tbe;clear q hW hE ev;obtain⟨fl,fz⟩:=V14.out.facts;have f8:w14.cell? ⟨gs,8,none⟩=some (.slice none 0 0):=V14.out.fact 8 rfl;have V15:VS C Z gs (be.2) #[.int .i64 10,.string ⟨#[]⟩,.string ⟨#[]⟩,.pointer none,.pointer none,.pointer pc,.slice none 0 0,.slice Abt bt.1.len cbt,.slice Abe be.1.len cbe,.int .i64 s.n] wa (w14.setCell ⟨gs,8,none⟩ (.slice Abe be.1.len cbe)):=(V14.out.store 8 (.slice Abe be.1.len cbe));obtain⟨w15,hw15⟩:∃ww,ww=(w14.setCell ⟨gs,8,none⟩ (.slice Abe be.1.len cbe)):=⟨_,rfl⟩;rw[←hw15]at V15;replace V15:=Za V15;have Tc_15:=(Tc_14.out.st hlow 8 (.slice Abe be.1.len cbe))
        rw[←hw15]at Tc_15;replace Tc_15:=Za Tc_15;have Tbt_15:=(Tbt_14.out.st hlow 8 (.slice Abe be.1.len cbe));rw[←hw15]at Tbt_15;replace Tbt_15:=Za Tbt_15;have Tbe_15:=(Tbe.out.st hlow 8 (.slice Abe be.1.len cbe));rw[←hw15]at Tbe_15;replace Tbe_15:=Za Tbe_15;go_upto_region 35 with(fail);rw[←hw15];clear hw15 fl fz f8;obtain⟨fl,fz⟩:=V15.out.facts;have f0:w15.cell? ⟨gs,0,none⟩=some (.int .i64 10):=V15.out.fact 0 rfl;have f1:w15.cell? ⟨gs,1,none⟩=some (.string ⟨#[]⟩):=V15.out.fact 1 rfl;have f2:w15.cell? ⟨gs,2,none⟩=some (.string ⟨#[]⟩):=V15.out.fact 2 rfl;have f3:w15.cell? ⟨gs,3,none⟩=some (.pointer none):=V15.out.fact 3 rfl;have f4:w15.cell? ⟨gs,4,none⟩=some (.pointer none):=V15.out.fact 4 rfl;have f5:w15.cell? ⟨gs,5,none⟩=some (.pointer pc):=V15.out.fact 5 rfl;have f6:w15.cell? ⟨gs,6,none⟩=some (.slice none 0 0):=V15.out.fact 6 rfl;have f7:w15.cell? ⟨gs,7,none⟩=some (.slice Abt bt.1.len cbt):=V15.out.fact 7 rfl;have f8:w15.cell? ⟨gs,8,none⟩=some (.slice Abe be.1.len cbe):=V15.out.fact 8 rfl;have f9:w15.cell? ⟨gs,9,none⟩=some (.int .i64 s.n):=V15.out.fact 9 rfl
        have hgr1:Holds w15 gr 63 iH:=V15.out.wr.holds hgr.out (by simp;omega);have g0:=hgr1.lt;have gz:=fun i=>hgr1.frozen i;have k0:w15.cell? ⟨gr,0,none⟩=some (.int .i64 0):=hgr1.cell 0;have k1:w15.cell? ⟨gr,1,none⟩=some (.string ⟨#[]⟩):=hgr1.cell 1;have k2:w15.cell? ⟨gr,2,none⟩=some (.string ⟨#[]⟩):=hgr1.cell 2;have k3:w15.cell? ⟨gr,3,none⟩=some (.pointer none):=hgr1.cell 3;have k4:w15.cell? ⟨gr,4,none⟩=some (.pointer none):=hgr1.cell 4;have k5:w15.cell? ⟨gr,5,none⟩=some (.pointer none):=hgr1.cell 5;have k6:w15.cell? ⟨gr,6,none⟩=some (.slice none 0 0):=hgr1.cell 6;have k7:w15.cell? ⟨gr,7,none⟩=some (.slice none 0 0):=hgr1.cell 7;have k8:w15.cell? ⟨gr,8,none⟩=some (.slice none 0 0):=hgr1.cell 8;have k9:w15.cell? ⟨gr,9,none⟩=some (.int .i64 0):=hgr1.cell 9;replace hgr1:=Za hgr1;go_wp2_with fail;refine fD rfl rfl rfl (cO hgr1.out _ _ _ _ _ _ _ _ _ _) Tryz.underlying63 Tryz.sStmt ?_;rw[hF.out]
        exact iD.of (h:={hd0 s.n with k:=10,c:=c.1}) V15.out ⟨aJ.nil_ _ _,aJ.nil_ _ _,Tc_15.out,aZ.nil_ _ _,Nat.zero_le 4096,Nat.zero_le 4096,(by decide:10≤12),hn1⟩ (Tbt_15.out) (Tbe_15.out) hz0 hba.out hgr0 hgs0 tu (bU _ _ _ _ _ _ _ _ _ _ _ _)
       |false=>
        have hF:Hid (R=(({hd0 s.n with k:=10,c:=c.1},bt.1,.nil),bt.2)):=Za (by rw[hR.out];unfold fV iG;simp only[hkf.out,hif,←hs2,←hc0,←hs3,←hbt,hel];rfl);replace h1:=Za h1;replace h2:=Za h2;replace hif:=Za hif;replace hwh:=Za hwh;replace hel:=Za hel;replace hs2:=Za hs2;replace hc0:=Za hc0;replace hs3:=Za hs3;replace hbt:=Za hbt;clear D6 hst3;refine(bg VN.out.mv [114,101,116,117,114,110] h1.out).mono ?_;rintro e w1 ⟨rfl,q,hW⟩;have V1:=Za (VN.out.call q);clear q hW;go_wp2_with fail;refine(bg V1.out.mv [97,115,115,101,114,116] h2.out).mono ?_;rintro e w2 ⟨rfl,q,hW⟩;have V2:=Za (V1.out.call q);clear q hW;go_wp2_with fail;refine(aG V2.out.mv [105,102] hif.out).mono ?_;rintro e w3 ⟨rfl,q,hW⟩;have V3:=Za (V2.out.call q);clear q hW;obtain⟨fl,fz⟩:=V3.out.facts;have f0:w3.cell? ⟨gs,0,none⟩=some (.int .i64 0):=V3.out.fact 0 rfl
        have V4:VS C Z gs (s.one) #[.int .i64 10,.string ⟨#[]⟩,.string ⟨#[]⟩,.pointer none,.pointer none,.pointer none,.slice none 0 0,.slice none 0 0,.slice none 0 0,.int .i64 s.n] wa (w3.setCell ⟨gs,0,none⟩ (.int .i64 10)):=(V3.out.store 0 (.int .i64 10));obtain⟨w4,hw4⟩:∃ww,ww=(w3.setCell ⟨gs,0,none⟩ (.int .i64 10)):=⟨_,rfl⟩;rw[←hw4]at V4;replace V4:=Za V4;go_wp2_with fail;rw[←hw4];clear hw4 fl fz f0;refine(aG V4.out.mv [119,104,105,108,101] hwh.out).mono ?_;rintro e w5 ⟨rfl,q,hW⟩;have V5:=Za (V4.out.call q);clear q hW;obtain⟨a0,d0,d1,d2,d3,d4,d5,d6,dfz⟩:=V5.out.mv.facts;have hi5:=V5.out.at_.bounds.2.2.1;have hw9:=dh (i:=(s.one).i) (by omega);have q:=V5.out.mv.next hi;have hW:Writes [some Z.g] w5 _:=q.wr;obtain⟨w6,hw6⟩:∃ww,ww=w5.setCell ⟨Z.g,1,none⟩ (.int .i64 (((s.one).i:Int)+1)):=⟨_,rfl⟩;rw[←hw6]at q hW;have V6:=Za (V5.out.call q);clear q hW hi5;go_wp2_with fail;rw[←hw6];clear hw6 a0 d0 d1 d2 d3 d4 d5 d6 dfz hw9;refine(bf V6.out.mv [40] hs2.out.symm).mono ?_;rintro e w7 ⟨rfl,q,hW⟩;have V7:=Za (V6.out.call q);clear q hW;go_wp2_with fail
        refine(hcond.near V7.out.mv hm2 hc0.out.symm).mono ?_;rintro e w8 ⟨pc,rfl,q,hE,hW⟩;have V8:=Za (V7.out.call q);have Tc:=Za (hE.ge (B:=wa.heap.size) V7.out.wr.size);clear q hW hE;obtain⟨fl,fz⟩:=V8.out.facts;have f5:w8.cell? ⟨gs,5,none⟩=some (.pointer none):=V8.out.fact 5 rfl;have V9:VS C Z gs (c.2) #[.int .i64 10,.string ⟨#[]⟩,.string ⟨#[]⟩,.pointer none,.pointer none,.pointer pc,.slice none 0 0,.slice none 0 0,.slice none 0 0,.int .i64 s.n] wa (w8.setCell ⟨gs,5,none⟩ (.pointer pc)):=(V8.out.store 5 (.pointer pc));obtain⟨w9,hw9⟩:∃ww,ww=(w8.setCell ⟨gs,5,none⟩ (.pointer pc)):=⟨_,rfl⟩;rw[←hw9]at V9;replace V9:=Za V9;have Tc_9:=(Tc.out.st hlow 5 (.pointer pc));rw[←hw9]at Tc_9;replace Tc_9:=Za Tc_9;go_wp2_with fail;rw[←hw9];clear hw9 fl fz f5;refine(bf V9.out.mv [41] hs3.out.symm).mono ?_;rintro e w10 ⟨rfl,q,hW⟩;have V10:=Za (V9.out.call q);have Tc_10:=Za (Tc_9.out.pw hW hltz);clear q hW;go_wp2_with fail;have hcc:=pK C Z _ s3 V10.out.at_ hm3 hfew3.out;rw[←hbt.out]at hcc;refine hcc.mono ?_;clear hcc;rintro e w11 ⟨vbt,rfl,q,hE⟩;have hW:=q.wr;have V11:=Za (V10.out.call q)
        have Tc_11:=Za (Tc_10.out.pw hW hltz);have Tbt:=hE.ge (B:=wa.heap.size) V10.out.wr.size;obtain⟨Abt,cbt,ev⟩:=aQ.jr Tbt;rw[ev]at Tbt⊢;replace Tbt:=Za Tbt;clear q hW hE ev;obtain⟨fl,fz⟩:=V11.out.facts;have f0:w11.cell? ⟨gs,0,none⟩=some (.int .i64 10):=V11.out.fact 0 rfl;have f7:w11.cell? ⟨gs,7,none⟩=some (.slice none 0 0):=V11.out.fact 7 rfl;have V12:VS C Z gs (bt.2) #[.int .i64 10,.string ⟨#[]⟩,.string ⟨#[]⟩,.pointer none,.pointer none,.pointer pc,.slice none 0 0,.slice Abt bt.1.len cbt,.slice none 0 0,.int .i64 s.n] wa (w11.setCell ⟨gs,7,none⟩ (.slice Abt bt.1.len cbt)):=(V11.out.store 7 (.slice Abt bt.1.len cbt));obtain⟨w12,hw12⟩:∃ww,ww=(w11.setCell ⟨gs,7,none⟩ (.slice Abt bt.1.len cbt)):=⟨_,rfl⟩;rw[←hw12]at V12;replace V12:=Za V12;have Tc_12:=(Tc_11.out.st hlow 7 (.slice Abt bt.1.len cbt));rw[←hw12]at Tc_12;replace Tc_12:=Za Tc_12;have Tbt_12:=(Tbt.out.st hlow 7 (.slice Abt bt.1.len cbt));rw[←hw12]at Tbt_12;replace Tbt_12:=Za Tbt_12;go_wp2_with fail;rw[←hw12];clear hw12 fl fz f0 f7;refine(bg V12.out.mv [101,108,115,101] hel.out).mono ?_;rintro e w13 ⟨rfl,q,hW⟩
        have V13:=Za (V12.out.call q);have Tc_13:=Za (Tc_12.out.pw hW hltz);have Tbt_13:=Za (Tbt_12.out.pw hW hltz);clear q hW;obtain⟨fl,fz⟩:=V13.out.facts;have f0:w13.cell? ⟨gs,0,none⟩=some (.int .i64 10):=V13.out.fact 0 rfl;have f1:w13.cell? ⟨gs,1,none⟩=some (.string ⟨#[]⟩):=V13.out.fact 1 rfl;have f2:w13.cell? ⟨gs,2,none⟩=some (.string ⟨#[]⟩):=V13.out.fact 2 rfl;have f3:w13.cell? ⟨gs,3,none⟩=some (.pointer none):=V13.out.fact 3 rfl;have f4:w13.cell? ⟨gs,4,none⟩=some (.pointer none):=V13.out.fact 4 rfl;have f5:w13.cell? ⟨gs,5,none⟩=some (.pointer pc):=V13.out.fact 5 rfl;have f6:w13.cell? ⟨gs,6,none⟩=some (.slice none 0 0):=V13.out.fact 6 rfl;have f7:w13.cell? ⟨gs,7,none⟩=some (.slice Abt bt.1.len cbt):=V13.out.fact 7 rfl;have f8:w13.cell? ⟨gs,8,none⟩=some (.slice none 0 0):=V13.out.fact 8 rfl;have f9:w13.cell? ⟨gs,9,none⟩=some (.int .i64 s.n):=V13.out.fact 9 rfl;have hgr1:Holds w13 gr 63 iH:=V13.out.wr.holds hgr.out (by simp;omega);have g0:=hgr1.lt;have gz:=fun i=>hgr1.frozen i;have k0:w13.cell? ⟨gr,0,none⟩=some (.int .i64 0):=hgr1.cell 0
        have k1:w13.cell? ⟨gr,1,none⟩=some (.string ⟨#[]⟩):=hgr1.cell 1;have k2:w13.cell? ⟨gr,2,none⟩=some (.string ⟨#[]⟩):=hgr1.cell 2;have k3:w13.cell? ⟨gr,3,none⟩=some (.pointer none):=hgr1.cell 3;have k4:w13.cell? ⟨gr,4,none⟩=some (.pointer none):=hgr1.cell 4;have k5:w13.cell? ⟨gr,5,none⟩=some (.pointer none):=hgr1.cell 5;have k6:w13.cell? ⟨gr,6,none⟩=some (.slice none 0 0):=hgr1.cell 6;have k7:w13.cell? ⟨gr,7,none⟩=some (.slice none 0 0):=hgr1.cell 7;have k8:w13.cell? ⟨gr,8,none⟩=some (.slice none 0 0):=hgr1.cell 8;have k9:w13.cell? ⟨gr,9,none⟩=some (.int .i64 0):=hgr1.cell 9;replace hgr1:=Za hgr1;go_wp2_with fail;refine fD rfl rfl rfl (cO hgr1.out _ _ _ _ _ _ _ _ _ _) Tryz.underlying63 Tryz.sStmt ?_;rw[hF.out];exact iD.of (h:={hd0 s.n with k:=10,c:=c.1}) V13.out ⟨aJ.nil_ _ _,aJ.nil_ _ _,Tc_13.out,aZ.nil_ _ _,Nat.zero_le 4096,Nat.zero_le 4096,(by decide:10≤12),hn1⟩ (Tbt_13.out) (aQ.nil_ _ _) hz0 hba.out hgr0 hgs0 tu (bU _ _ _ _ _ _ _ _ _ _ _ _)
      |false=>
       cases hwh:isF C [119,104,105,108,101] s.one with
       |true=>
        obtain⟨s2,hs2⟩:∃yy,yy=aY C [40] s.one.next:=⟨_,rfl⟩;obtain⟨c,hc0⟩:∃yy,yy=cond C s2:=⟨_,rfl⟩;obtain⟨s3,hs3⟩:∃yy,yy=aY C [41] c.2:=⟨_,rfl⟩;obtain⟨bt,hbt⟩:∃yy,yy=block C s3:=⟨_,rfl⟩
        have hkn2:¬200≤s.n:=fun h=>by have:=hkf.out;rw[decide_eq_true h,Bool.and_true]at this;unfold gJ at this;rw[show isF C [119,104,105,108,101] s=true from hwh]at this;simp at this
        have hi:=dD hwh
        have hm2:m≤s2.deep:=by rw[hs2,(Stp.want _ _).dp];exact hm
        have hm3:m≤s3.deep:=by rw[hs3,(Stp.want _ _).dp,hc0,(hc C _).dp];exact hm2
        have hst3:Stp C s.one s3:=by rw[hs3,hc0,hs2];exact(((Stp.is_ hwh).trans (Stp.want _ _)).trans (hc C _)).trans (Stp.want _ _)
        have hfew3:s3.Few:=hst3.nn ⟨by simp only[PS.one];omega,fun _=>by simp only[PS.one];omega⟩;replace hfew3:=Za hfew3;have hF:Hid (R=(({hd0 s.n with k:=11,c:=c.1},bt.1,.nil),bt.2)):=Za (by rw[hR.out];unfold fV iG;simp only[hkf.out,hif,hwh,←hs2,←hc0,←hs3,←hbt];rfl);replace h1:=Za h1;replace h2:=Za h2;replace hif:=Za hif;replace hwh:=Za hwh;replace hs2:=Za hs2;replace hc0:=Za hc0;replace hs3:=Za hs3;replace hbt:=Za hbt;clear hst3;refine(bg VN.out.mv [114,101,116,117,114,110] h1.out).mono ?_;rintro e w1 ⟨rfl,q,hW⟩;have V1:=Za (VN.out.call q);clear q hW;go_wp2_with fail;refine(bg V1.out.mv [97,115,115,101,114,116] h2.out).mono ?_;rintro e w2 ⟨rfl,q,hW⟩;have V2:=Za (V1.out.call q);clear q hW;go_wp2_with fail;refine(aG V2.out.mv [105,102] hif.out).mono ?_;rintro e w3 ⟨rfl,q,hW⟩;have V3:=Za (V2.out.call q);clear q hW;go_wp2_with fail;refine(aG V3.out.mv [119,104,105,108,101] hwh.out).mono ?_;rintro e w4 ⟨rfl,q,hW⟩;have V4:=Za (V3.out.call q);clear q hW;obtain⟨fl,fz⟩:=V4.out.facts
        have f0:w4.cell? ⟨gs,0,none⟩=some (.int .i64 0):=V4.out.fact 0 rfl;have V5:VS C Z gs (s.one) #[.int .i64 10,.string ⟨#[]⟩,.string ⟨#[]⟩,.pointer none,.pointer none,.pointer none,.slice none 0 0,.slice none 0 0,.slice none 0 0,.int .i64 s.n] wa (w4.setCell ⟨gs,0,none⟩ (.int .i64 10)):=(V4.out.store 0 (.int .i64 10));obtain⟨w5,hw5⟩:∃ww,ww=(w4.setCell ⟨gs,0,none⟩ (.int .i64 10)):=⟨_,rfl⟩;rw[←hw5]at V5;replace V5:=Za V5;go_wp2_with fail;rw[←hw5];clear hw5 fl fz f0;refine(aG V5.out.mv [119,104,105,108,101] hwh.out).mono ?_;rintro e w6 ⟨rfl,q,hW⟩;have V6:=Za (V5.out.call q);clear q hW;obtain⟨fl,fz⟩:=V6.out.facts;have f0:w6.cell? ⟨gs,0,none⟩=some (.int .i64 10):=V6.out.fact 0 rfl;have V7:VS C Z gs (s.one) #[.int .i64 11,.string ⟨#[]⟩,.string ⟨#[]⟩,.pointer none,.pointer none,.pointer none,.slice none 0 0,.slice none 0 0,.slice none 0 0,.int .i64 s.n] wa (w6.setCell ⟨gs,0,none⟩ (.int .i64 11)):=(V6.out.store 0 (.int .i64 11));obtain⟨w7,hw7⟩:∃ww,ww=(w6.setCell ⟨gs,0,none⟩ (.int .i64 11)):=⟨_,rfl⟩;rw[←hw7]at V7;replace V7:=Za V7;go_upto_region 28 with(fail);rw[←hw7];clear hw7 fl fz f0
        obtain⟨a0,d0,d1,d2,d3,d4,d5,d6,dfz⟩:=V7.out.mv.facts;have hi5:=V7.out.at_.bounds.2.2.1;have hw9:=dh (i:=(s.one).i) (by omega);have q:=V7.out.mv.next hi;have hW:Writes [some Z.g] w7 _:=q.wr;obtain⟨w8,hw8⟩:∃ww,ww=w7.setCell ⟨Z.g,1,none⟩ (.int .i64 (((s.one).i:Int)+1)):=⟨_,rfl⟩;rw[←hw8]at q hW;have V8:=Za (V7.out.call q);clear q hW hi5;go_wp2_with fail;rw[←hw8];clear hw8 a0 d0 d1 d2 d3 d4 d5 d6 dfz hw9;refine(bf V8.out.mv [40] hs2.out.symm).mono ?_;rintro e w9 ⟨rfl,q,hW⟩;have V9:=Za (V8.out.call q);clear q hW;go_wp2_with fail;refine(hcond.near V9.out.mv hm2 hc0.out.symm).mono ?_;rintro e w10 ⟨pc,rfl,q,hE,hW⟩;have V10:=Za (V9.out.call q);have Tc:=Za (hE.ge (B:=wa.heap.size) V9.out.wr.size);clear q hW hE;obtain⟨fl,fz⟩:=V10.out.facts;have f5:w10.cell? ⟨gs,5,none⟩=some (.pointer none):=V10.out.fact 5 rfl;have V11:VS C Z gs (c.2) #[.int .i64 11,.string ⟨#[]⟩,.string ⟨#[]⟩,.pointer none,.pointer none,.pointer pc,.slice none 0 0,.slice none 0 0,.slice none 0 0,.int .i64 s.n] wa (w10.setCell ⟨gs,5,none⟩ (.pointer pc)):=(V10.out.store 5 (.pointer pc))
        obtain⟨w11,hw11⟩:∃ww,ww=(w10.setCell ⟨gs,5,none⟩ (.pointer pc)):=⟨_,rfl⟩;rw[←hw11]at V11;replace V11:=Za V11;have Tc_11:=(Tc.out.st hlow 5 (.pointer pc));rw[←hw11]at Tc_11;replace Tc_11:=Za Tc_11;go_wp2_with fail;rw[←hw11];clear hw11 fl fz f5;refine(bf V11.out.mv [41] hs3.out.symm).mono ?_;rintro e w12 ⟨rfl,q,hW⟩;have V12:=Za (V11.out.call q);have Tc_12:=Za (Tc_11.out.pw hW hltz);clear q hW;go_wp2_with fail;have hcc:=pK C Z _ s3 V12.out.at_ hm3 hfew3.out;rw[←hbt.out]at hcc;refine hcc.mono ?_;clear hcc;rintro e w13 ⟨vbt,rfl,q,hE⟩;have hW:=q.wr;have V13:=Za (V12.out.call q);have Tc_13:=Za (Tc_12.out.pw hW hltz);have Tbt:=hE.ge (B:=wa.heap.size) V12.out.wr.size;obtain⟨Abt,cbt,ev⟩:=aQ.jr Tbt;rw[ev]at Tbt⊢;replace Tbt:=Za Tbt;clear q hW hE ev;obtain⟨fl,fz⟩:=V13.out.facts;have f7:w13.cell? ⟨gs,7,none⟩=some (.slice none 0 0):=V13.out.fact 7 rfl
        have V14:VS C Z gs (bt.2) #[.int .i64 11,.string ⟨#[]⟩,.string ⟨#[]⟩,.pointer none,.pointer none,.pointer pc,.slice none 0 0,.slice Abt bt.1.len cbt,.slice none 0 0,.int .i64 s.n] wa (w13.setCell ⟨gs,7,none⟩ (.slice Abt bt.1.len cbt)):=(V13.out.store 7 (.slice Abt bt.1.len cbt));obtain⟨w14,hw14⟩:∃ww,ww=(w13.setCell ⟨gs,7,none⟩ (.slice Abt bt.1.len cbt)):=⟨_,rfl⟩;rw[←hw14]at V14;replace V14:=Za V14;have Tc_14:=(Tc_13.out.st hlow 7 (.slice Abt bt.1.len cbt));rw[←hw14]at Tc_14;replace Tc_14:=Za Tc_14;have Tbt_14:=(Tbt.out.st hlow 7 (.slice Abt bt.1.len cbt));rw[←hw14]at Tbt_14;replace Tbt_14:=Za Tbt_14;go_upto_region 33 with(fail);rw[←hw14];clear hw14 fl fz f7;obtain⟨fl,fz⟩:=V14.out.facts;have f0:w14.cell? ⟨gs,0,none⟩=some (.int .i64 11):=V14.out.fact 0 rfl;have f1:w14.cell? ⟨gs,1,none⟩=some (.string ⟨#[]⟩):=V14.out.fact 1 rfl;have f2:w14.cell? ⟨gs,2,none⟩=some (.string ⟨#[]⟩):=V14.out.fact 2 rfl;have f3:w14.cell? ⟨gs,3,none⟩=some (.pointer none):=V14.out.fact 3 rfl;have f4:w14.cell? ⟨gs,4,none⟩=some (.pointer none):=V14.out.fact 4 rfl
        have f5:w14.cell? ⟨gs,5,none⟩=some (.pointer pc):=V14.out.fact 5 rfl;have f6:w14.cell? ⟨gs,6,none⟩=some (.slice none 0 0):=V14.out.fact 6 rfl;have f7:w14.cell? ⟨gs,7,none⟩=some (.slice Abt bt.1.len cbt):=V14.out.fact 7 rfl;have f8:w14.cell? ⟨gs,8,none⟩=some (.slice none 0 0):=V14.out.fact 8 rfl;have f9:w14.cell? ⟨gs,9,none⟩=some (.int .i64 s.n):=V14.out.fact 9 rfl;have hgr1:Holds w14 gr 63 iH:=V14.out.wr.holds hgr.out (by simp;omega);have g0:=hgr1.lt;have gz:=fun i=>hgr1.frozen i;have k0:w14.cell? ⟨gr,0,none⟩=some (.int .i64 0):=hgr1.cell 0;have k1:w14.cell? ⟨gr,1,none⟩=some (.string ⟨#[]⟩):=hgr1.cell 1;have k2:w14.cell? ⟨gr,2,none⟩=some (.string ⟨#[]⟩):=hgr1.cell 2;have k3:w14.cell? ⟨gr,3,none⟩=some (.pointer none):=hgr1.cell 3;have k4:w14.cell? ⟨gr,4,none⟩=some (.pointer none):=hgr1.cell 4;have k5:w14.cell? ⟨gr,5,none⟩=some (.pointer none):=hgr1.cell 5;have k6:w14.cell? ⟨gr,6,none⟩=some (.slice none 0 0):=hgr1.cell 6;have k7:w14.cell? ⟨gr,7,none⟩=some (.slice none 0 0):=hgr1.cell 7;have k8:w14.cell? ⟨gr,8,none⟩=some (.slice none 0 0):=hgr1.cell 8
        have k9:w14.cell? ⟨gr,9,none⟩=some (.int .i64 0):=hgr1.cell 9;replace hgr1:=Za hgr1;go_wp2_with fail;refine fD rfl rfl rfl (cO hgr1.out _ _ _ _ _ _ _ _ _ _) Tryz.underlying63 Tryz.sStmt ?_;rw[hF.out];exact iD.of (h:={hd0 s.n with k:=11,c:=c.1}) V14.out ⟨aJ.nil_ _ _,aJ.nil_ _ _,Tc_14.out,aZ.nil_ _ _,Nat.zero_le 4096,Nat.zero_le 4096,(by decide:11≤12),hn1⟩ (Tbt_14.out) (aQ.nil_ _ _) hz0 hba.out hgr0 hgs0 tu (bU _ _ _ _ _ _ _ _ _ _ _ _)
       |false=>
        cases h3:isF C [42] s.one with
        |true=>
         obtain⟨x,hx⟩:∃yy,yy=(aK C s.one.next).1:=⟨_,rfl⟩;obtain⟨s2,hs2⟩:∃yy,yy=(aK C s.one.next).2:=⟨_,rfl⟩;obtain⟨s3,hs3⟩:∃yy,yy=aY C [61] s2:=⟨_,rfl⟩;obtain⟨r,hr⟩:∃yy,yy=sum C s3:=⟨_,rfl⟩;obtain⟨s5,hs5⟩:∃yy,yy=aY C [59] r.2:=⟨_,rfl⟩;have hF:Hid (R=(({hd0 s.n with k:=5,x:=x,e:=r.1},.nil,.nil),s5)):=Za (by rw[hR.out,hs5,hr,hs3,hs2,hx];unfold fV gX;simp only[hkf.out,hif,hwh,h1,h2,h3];rfl)
         have hm3:m≤s3.deep:=by rw[hs3,(Stp.want _ _).dp,hs2,(Stp.name _).dp];exact hm
         have hnf:Hid (aK C s.one.next=(x,s2)):=Za (by rw[hx,hs2]);clear hx hs2;replace hs3:=Za hs3;replace hr:=Za hr;replace hs5:=Za hs5;replace h1:=Za h1;replace h2:=Za h2;replace hif:=Za hif;replace hwh:=Za hwh;replace h3:=Za h3;refine(bg VN.out.mv [114,101,116,117,114,110] h1.out).mono ?_;rintro e w1 ⟨rfl,q,hW⟩;have V1:=Za (VN.out.call q);clear q hW;go_wp2_with fail;refine(bg V1.out.mv [97,115,115,101,114,116] h2.out).mono ?_;rintro e w2 ⟨rfl,q,hW⟩;have V2:=Za (V1.out.call q);clear q hW;go_wp2_with fail;refine(aG V2.out.mv [105,102] hif.out).mono ?_;rintro e w3 ⟨rfl,q,hW⟩;have V3:=Za (V2.out.call q);clear q hW;go_wp2_with fail;refine(aG V3.out.mv [119,104,105,108,101] hwh.out).mono ?_;rintro e w4 ⟨rfl,q,hW⟩;have V4:=Za (V3.out.call q);clear q hW;go_wp2_with fail;refine(dH V4.out.mv [42] h3.out rfl).mono ?_;rintro e w5 ⟨rfl,q,hW⟩;have V5:=Za (V4.out.call q);clear q hW;go_wp2_with fail;refine(dR V5.out.mv hnf.out).mono ?_;rintro e w6 ⟨rfl,q,xl,hW⟩;have V6:=Za (V5.out.call q);clear q hW;obtain⟨fl,fz⟩:=V6.out.facts
         have f0:w6.cell? ⟨gs,0,none⟩=some (.int .i64 0):=V6.out.fact 0 rfl;have f1:w6.cell? ⟨gs,1,none⟩=some (.string ⟨#[]⟩):=V6.out.fact 1 rfl;have V7:VS C Z gs (s2) #[.int .i64 5,.string (ay x),.string ⟨#[]⟩,.pointer none,.pointer none,.pointer none,.slice none 0 0,.slice none 0 0,.slice none 0 0,.int .i64 s.n] wa ((w6.setCell ⟨gs,0,none⟩ (.int .i64 5)).setCell ⟨gs,1,none⟩ (.string (ay x))):=((V6.out.store 0 (.int .i64 5)).store 1 (.string (ay x)));obtain⟨w7,hw7⟩:∃ww,ww=((w6.setCell ⟨gs,0,none⟩ (.int .i64 5)).setCell ⟨gs,1,none⟩ (.string (ay x))):=⟨_,rfl⟩;rw[←hw7]at V7;replace V7:=Za V7;go_wp2_with fail;rw[←hw7];clear hw7 fl fz f0 f1;refine(bf V7.out.mv [61] hs3.out.symm).mono ?_;rintro e w8 ⟨rfl,q,hW⟩;have V8:=Za (V7.out.call q);clear q hW;go_wp2_with fail;refine(hsum.near V8.out.mv hm3 hr.out.symm).mono ?_;rintro e w9 ⟨pr,rfl,q,hE,hW⟩;have V9:=Za (V8.out.call q);have Tr:=Za (hE.ge (B:=wa.heap.size) V8.out.wr.size);clear q hW hE;obtain⟨fl,fz⟩:=V9.out.facts;have f3:w9.cell? ⟨gs,3,none⟩=some (.pointer none):=V9.out.fact 3 rfl
         have V10:VS C Z gs (r.2) #[.int .i64 5,.string (ay x),.string ⟨#[]⟩,.pointer pr,.pointer none,.pointer none,.slice none 0 0,.slice none 0 0,.slice none 0 0,.int .i64 s.n] wa (w9.setCell ⟨gs,3,none⟩ (.pointer pr)):=(V9.out.store 3 (.pointer pr));obtain⟨w10,hw10⟩:∃ww,ww=(w9.setCell ⟨gs,3,none⟩ (.pointer pr)):=⟨_,rfl⟩;rw[←hw10]at V10;replace V10:=Za V10;have Tr_10:=(Tr.out.st hlow 3 (.pointer pr));rw[←hw10]at Tr_10;replace Tr_10:=Za Tr_10;go_wp2_with fail;rw[←hw10];clear hw10 fl fz f3;refine(bf V10.out.mv [59] hs5.out.symm).mono ?_;rintro e w11 ⟨rfl,q,hW⟩;have V11:=Za (V10.out.call q);have Tr_11:=Za (Tr_10.out.pw hW hltz);clear q hW;obtain⟨fl,fz⟩:=V11.out.facts;have f0:w11.cell? ⟨gs,0,none⟩=some (.int .i64 5):=V11.out.fact 0 rfl;have f1:w11.cell? ⟨gs,1,none⟩=some (.string (ay x)):=V11.out.fact 1 rfl;have f2:w11.cell? ⟨gs,2,none⟩=some (.string ⟨#[]⟩):=V11.out.fact 2 rfl;have f3:w11.cell? ⟨gs,3,none⟩=some (.pointer pr):=V11.out.fact 3 rfl;have f4:w11.cell? ⟨gs,4,none⟩=some (.pointer none):=V11.out.fact 4 rfl
         have f5:w11.cell? ⟨gs,5,none⟩=some (.pointer none):=V11.out.fact 5 rfl;have f6:w11.cell? ⟨gs,6,none⟩=some (.slice none 0 0):=V11.out.fact 6 rfl;have f7:w11.cell? ⟨gs,7,none⟩=some (.slice none 0 0):=V11.out.fact 7 rfl;have f8:w11.cell? ⟨gs,8,none⟩=some (.slice none 0 0):=V11.out.fact 8 rfl;have f9:w11.cell? ⟨gs,9,none⟩=some (.int .i64 s.n):=V11.out.fact 9 rfl;have hgr1:Holds w11 gr 63 iH:=V11.out.wr.holds hgr.out (by simp;omega);have g0:=hgr1.lt;have gz:=fun i=>hgr1.frozen i;have k0:w11.cell? ⟨gr,0,none⟩=some (.int .i64 0):=hgr1.cell 0;have k1:w11.cell? ⟨gr,1,none⟩=some (.string ⟨#[]⟩):=hgr1.cell 1;have k2:w11.cell? ⟨gr,2,none⟩=some (.string ⟨#[]⟩):=hgr1.cell 2;have k3:w11.cell? ⟨gr,3,none⟩=some (.pointer none):=hgr1.cell 3;have k4:w11.cell? ⟨gr,4,none⟩=some (.pointer none):=hgr1.cell 4;have k5:w11.cell? ⟨gr,5,none⟩=some (.pointer none):=hgr1.cell 5;have k6:w11.cell? ⟨gr,6,none⟩=some (.slice none 0 0):=hgr1.cell 6;have k7:w11.cell? ⟨gr,7,none⟩=some (.slice none 0 0):=hgr1.cell 7;have k8:w11.cell? ⟨gr,8,none⟩=some (.slice none 0 0):=hgr1.cell 8
         have k9:w11.cell? ⟨gr,9,none⟩=some (.int .i64 0):=hgr1.cell 9;replace hgr1:=Za hgr1;go_wp2_with fail;refine fD rfl rfl rfl (cO hgr1.out _ _ _ _ _ _ _ _ _ _) Tryz.underlying63 Tryz.sStmt ?_;rw[hF.out];exact iD.of (h:={hd0 s.n with k:=5,x:=x,e:=r.1}) V11.out ⟨Tr_11.out,aJ.nil_ _ _,bC.nil_ _ _,aZ.nil_ _ _,xl,Nat.zero_le 4096,(by decide:5≤12),hn1⟩ (aQ.nil_ _ _) (aQ.nil_ _ _) hz0 hba.out hgr0 hgs0 tu (bU _ _ _ _ _ _ _ _ _ _ _ _)
        |false=>
         obtain⟨x,hx⟩:∃yy,yy=(aK C s.one).1:=⟨_,rfl⟩;obtain⟨s2,hs2⟩:∃yy,yy=(aK C s.one).2:=⟨_,rfl⟩
         cases h4:isF C [40] s2 with
         |true=>
          obtain⟨r,hr⟩:∃yy,yy=jg C (sum C) s2.next:=⟨_,rfl⟩;obtain⟨s5,hs5⟩:∃yy,yy=aY C [59] r.2:=⟨_,rfl⟩;have hF:Hid (R=(({hd0 s.n with k:=8,y:=x,args:=r.1},.nil,.nil),s5)):=Za (by rw[hR.out,hs5,hr];unfold fV gX;simp only[hkf.out,hif,hwh,h1,h2,h3,←hs2,←hx,h4];rfl)
          have hm2:m≤s2.next.deep:=by rw[hs2];simp only[PS.next];rw[(Stp.name _).dp];exact hm
          have hnf:Hid (aK C s.one=(x,s2)):=Za (by rw[hx,hs2]);clear hx hs2;replace hr:=Za hr;replace hs5:=Za hs5;replace h1:=Za h1;replace h2:=Za h2;replace hif:=Za hif;replace hwh:=Za hwh;replace h3:=Za h3;replace h4:=Za h4;refine(bg VN.out.mv [114,101,116,117,114,110] h1.out).mono ?_;rintro e w1 ⟨rfl,q,hW⟩;have V1:=Za (VN.out.call q);clear q hW;go_wp2_with fail;refine(bg V1.out.mv [97,115,115,101,114,116] h2.out).mono ?_;rintro e w2 ⟨rfl,q,hW⟩;have V2:=Za (V1.out.call q);clear q hW;go_wp2_with fail;refine(aG V2.out.mv [105,102] hif.out).mono ?_;rintro e w3 ⟨rfl,q,hW⟩;have V3:=Za (V2.out.call q);clear q hW;go_wp2_with fail;refine(aG V3.out.mv [119,104,105,108,101] hwh.out).mono ?_;rintro e w4 ⟨rfl,q,hW⟩;have V4:=Za (V3.out.call q);clear q hW;go_wp2_with fail;refine(bg V4.out.mv [42] h3.out).mono ?_;rintro e w5 ⟨rfl,q,hW⟩;have V5:=Za (V4.out.call q);clear q hW;go_wp2_with fail;refine(dR V5.out.mv hnf.out).mono ?_;rintro e w6 ⟨rfl,q,xl,hW⟩;have V6:=Za (V5.out.call q);clear q hW;go_wp2_with fail;refine(dH V6.out.mv [40] h4.out rfl).mono ?_
          rintro e w7 ⟨rfl,q,hW⟩;have V7:=Za (V6.out.call q);clear q hW;go_wp2_with fail;have hcc:=u_ m sum hsum hs C Z _ s2.next V7.out.at_ hm2;rw[←hr.out]at hcc;refine hcc.mono ?_;clear hcc;rintro e w8 ⟨vr,rfl,q,hE⟩;have hW:=q.wr;have V8:=Za (V7.out.call q);have Tr:=hE.ge (B:=wa.heap.size) V7.out.wr.size;obtain⟨Ar,cr,ev⟩:=lX Tr;rw[ev]at Tr⊢;replace Tr:=Za Tr;clear q hW hE ev;obtain⟨fl,fz⟩:=V8.out.facts;have f0:w8.cell? ⟨gs,0,none⟩=some (.int .i64 0):=V8.out.fact 0 rfl;have f2:w8.cell? ⟨gs,2,none⟩=some (.string ⟨#[]⟩):=V8.out.fact 2 rfl;have f6:w8.cell? ⟨gs,6,none⟩=some (.slice none 0 0):=V8.out.fact 6 rfl;have V9:VS C Z gs (r.2) #[.int .i64 8,.string ⟨#[]⟩,.string (ay x),.pointer none,.pointer none,.pointer none,.slice Ar r.1.length cr,.slice none 0 0,.slice none 0 0,.int .i64 s.n] wa (((w8.setCell ⟨gs,0,none⟩ (.int .i64 8)).setCell ⟨gs,2,none⟩ (.string (ay x))).setCell ⟨gs,6,none⟩ (.slice Ar r.1.length cr)):=(((V8.out.store 0 (.int .i64 8)).store 2 (.string (ay x))).store 6 (.slice Ar r.1.length cr))
          obtain⟨w9,hw9⟩:∃ww,ww=(((w8.setCell ⟨gs,0,none⟩ (.int .i64 8)).setCell ⟨gs,2,none⟩ (.string (ay x))).setCell ⟨gs,6,none⟩ (.slice Ar r.1.length cr)):=⟨_,rfl⟩;rw[←hw9]at V9;replace V9:=Za V9;have Tr_9:=(((Tr.out.st hlow 0 (.int .i64 8)).st hlow 2 (.string (ay x))).st hlow 6 (.slice Ar r.1.length cr));rw[←hw9]at Tr_9;replace Tr_9:=Za Tr_9;go_wp2_with fail;rw[←hw9];clear hw9 fl fz f0 f2 f6;refine(bf V9.out.mv [59] hs5.out.symm).mono ?_;rintro e w10 ⟨rfl,q,hW⟩;have V10:=Za (V9.out.call q);have Tr_10:=Za (Tr_9.out.pw hW hltz);clear q hW;obtain⟨fl,fz⟩:=V10.out.facts;have f0:w10.cell? ⟨gs,0,none⟩=some (.int .i64 8):=V10.out.fact 0 rfl;have f1:w10.cell? ⟨gs,1,none⟩=some (.string ⟨#[]⟩):=V10.out.fact 1 rfl;have f2:w10.cell? ⟨gs,2,none⟩=some (.string (ay x)):=V10.out.fact 2 rfl;have f3:w10.cell? ⟨gs,3,none⟩=some (.pointer none):=V10.out.fact 3 rfl;have f4:w10.cell? ⟨gs,4,none⟩=some (.pointer none):=V10.out.fact 4 rfl;have f5:w10.cell? ⟨gs,5,none⟩=some (.pointer none):=V10.out.fact 5 rfl;have f6:w10.cell? ⟨gs,6,none⟩=some (.slice Ar r.1.length cr):=V10.out.fact 6 rfl
          have f7:w10.cell? ⟨gs,7,none⟩=some (.slice none 0 0):=V10.out.fact 7 rfl;have f8:w10.cell? ⟨gs,8,none⟩=some (.slice none 0 0):=V10.out.fact 8 rfl;have f9:w10.cell? ⟨gs,9,none⟩=some (.int .i64 s.n):=V10.out.fact 9 rfl;have hgr1:Holds w10 gr 63 iH:=V10.out.wr.holds hgr.out (by simp;omega);have g0:=hgr1.lt;have gz:=fun i=>hgr1.frozen i;have k0:w10.cell? ⟨gr,0,none⟩=some (.int .i64 0):=hgr1.cell 0;have k1:w10.cell? ⟨gr,1,none⟩=some (.string ⟨#[]⟩):=hgr1.cell 1;have k2:w10.cell? ⟨gr,2,none⟩=some (.string ⟨#[]⟩):=hgr1.cell 2;have k3:w10.cell? ⟨gr,3,none⟩=some (.pointer none):=hgr1.cell 3;have k4:w10.cell? ⟨gr,4,none⟩=some (.pointer none):=hgr1.cell 4;have k5:w10.cell? ⟨gr,5,none⟩=some (.pointer none):=hgr1.cell 5;have k6:w10.cell? ⟨gr,6,none⟩=some (.slice none 0 0):=hgr1.cell 6;have k7:w10.cell? ⟨gr,7,none⟩=some (.slice none 0 0):=hgr1.cell 7;have k8:w10.cell? ⟨gr,8,none⟩=some (.slice none 0 0):=hgr1.cell 8;have k9:w10.cell? ⟨gr,9,none⟩=some (.int .i64 0):=hgr1.cell 9;replace hgr1:=Za hgr1;go_wp2_with fail
          refine fD rfl rfl rfl (cO hgr1.out _ _ _ _ _ _ _ _ _ _) Tryz.underlying63 Tryz.sStmt ?_;rw[hF.out];exact iD.of (h:={hd0 s.n with k:=8,y:=x,args:=r.1}) V10.out ⟨aJ.nil_ _ _,aJ.nil_ _ _,bC.nil_ _ _,Tr_10.out,Nat.zero_le 4096,xl,(by decide:8≤12),hn1⟩ (aQ.nil_ _ _) (aQ.nil_ _ _) hz0 hba.out hgr0 hgs0 tu (bU _ _ _ _ _ _ _ _ _ _ _ _)
         |false=>
          cases h5:isF C [91] s2 with
          |true=>
           obtain⟨r,hr⟩:∃yy,yy=sum C s2.next:=⟨_,rfl⟩;obtain⟨s3,hs3⟩:∃yy,yy=aY C [93] r.2:=⟨_,rfl⟩;obtain⟨s4,hs4⟩:∃yy,yy=aY C [61] s3:=⟨_,rfl⟩;obtain⟨q1,hq1⟩:∃yy,yy=sum C s4:=⟨_,rfl⟩;obtain⟨s5,hs5⟩:∃yy,yy=aY C [59] q1.2:=⟨_,rfl⟩;have hF:Hid (R=(({hd0 s.n with k:=7,y:=x,e:=r.1,f:=q1.1},.nil,.nil),s5)):=Za (by rw[hR.out,hs5,hq1,hs4,hs3,hr];unfold fV gX;simp only[hkf.out,hif,hwh,h1,h2,h3,←hs2,←hx,h4,h5];rfl)
           have hm2:m≤s2.next.deep:=by rw[hs2];simp only[PS.next];rw[(Stp.name _).dp];exact hm
           have hm4:m≤s4.deep:=by rw[hs4,(Stp.want _ _).dp,hs3,(Stp.want _ _).dp,hr,(hs C _).dp];exact hm2
           have hnf:Hid (aK C s.one=(x,s2)):=Za (by rw[hx,hs2]);clear hx hs2;replace hr:=Za hr;replace hs3:=Za hs3;replace hs4:=Za hs4;replace hq1:=Za hq1;replace hs5:=Za hs5;replace h1:=Za h1;replace h2:=Za h2;replace hif:=Za hif;replace hwh:=Za hwh;replace h3:=Za h3;replace h4:=Za h4;replace h5:=Za h5;refine(bg VN.out.mv [114,101,116,117,114,110] h1.out).mono ?_;rintro e w1 ⟨rfl,q,hW⟩;have V1:=Za (VN.out.call q);clear q hW;go_wp2_with fail;refine(bg V1.out.mv [97,115,115,101,114,116] h2.out).mono ?_;rintro e w2 ⟨rfl,q,hW⟩;have V2:=Za (V1.out.call q);clear q hW;go_wp2_with fail;refine(aG V2.out.mv [105,102] hif.out).mono ?_;rintro e w3 ⟨rfl,q,hW⟩;have V3:=Za (V2.out.call q);clear q hW;go_wp2_with fail;refine(aG V3.out.mv [119,104,105,108,101] hwh.out).mono ?_;rintro e w4 ⟨rfl,q,hW⟩;have V4:=Za (V3.out.call q);clear q hW;go_wp2_with fail;refine(bg V4.out.mv [42] h3.out).mono ?_;rintro e w5 ⟨rfl,q,hW⟩;have V5:=Za (V4.out.call q);clear q hW;go_wp2_with fail;refine(dR V5.out.mv hnf.out).mono ?_;rintro e w6 ⟨rfl,q,xl,hW⟩
           have V6:=Za (V5.out.call q);clear q hW;go_wp2_with fail;refine(bg V6.out.mv [40] h4.out).mono ?_;rintro e w7 ⟨rfl,q,hW⟩;have V7:=Za (V6.out.call q);clear q hW;go_wp2_with fail;refine(dH V7.out.mv [91] h5.out rfl).mono ?_;rintro e w8 ⟨rfl,q,hW⟩;have V8:=Za (V7.out.call q);clear q hW;go_wp2_with fail;refine(hsum.near V8.out.mv hm2 hr.out.symm).mono ?_;rintro e w9 ⟨pr,rfl,q,hE,hW⟩;have V9:=Za (V8.out.call q);have Tr:=Za (hE.ge (B:=wa.heap.size) V8.out.wr.size);clear q hW hE;obtain⟨fl,fz⟩:=V9.out.facts;have f0:w9.cell? ⟨gs,0,none⟩=some (.int .i64 0):=V9.out.fact 0 rfl;have f2:w9.cell? ⟨gs,2,none⟩=some (.string ⟨#[]⟩):=V9.out.fact 2 rfl;have f3:w9.cell? ⟨gs,3,none⟩=some (.pointer none):=V9.out.fact 3 rfl;have V10:VS C Z gs (r.2) #[.int .i64 7,.string ⟨#[]⟩,.string (ay x),.pointer pr,.pointer none,.pointer none,.slice none 0 0,.slice none 0 0,.slice none 0 0,.int .i64 s.n] wa (((w9.setCell ⟨gs,0,none⟩ (.int .i64 7)).setCell ⟨gs,2,none⟩ (.string (ay x))).setCell ⟨gs,3,none⟩ (.pointer pr)):=(((V9.out.store 0 (.int .i64 7)).store 2 (.string (ay x))).store 3 (.pointer pr))
           obtain⟨w10,hw10⟩:∃ww,ww=(((w9.setCell ⟨gs,0,none⟩ (.int .i64 7)).setCell ⟨gs,2,none⟩ (.string (ay x))).setCell ⟨gs,3,none⟩ (.pointer pr)):=⟨_,rfl⟩;rw[←hw10]at V10;replace V10:=Za V10;have Tr_10:=(((Tr.out.st hlow 0 (.int .i64 7)).st hlow 2 (.string (ay x))).st hlow 3 (.pointer pr));rw[←hw10]at Tr_10;replace Tr_10:=Za Tr_10;go_wp2_with fail;rw[←hw10];clear hw10 fl fz f0 f2 f3;refine(bf V10.out.mv [93] hs3.out.symm).mono ?_;rintro e w11 ⟨rfl,q,hW⟩;have V11:=Za (V10.out.call q);have Tr_11:=Za (Tr_10.out.pw hW hltz);clear q hW;go_wp2_with fail;refine(bf V11.out.mv [61] hs4.out.symm).mono ?_;rintro e w12 ⟨rfl,q,hW⟩;have V12:=Za (V11.out.call q);have Tr_12:=Za (Tr_11.out.pw hW hltz);clear q hW;go_wp2_with fail;refine(hsum.near V12.out.mv hm4 hq1.out.symm).mono ?_;rintro e w13 ⟨pq1,rfl,q,hE,hW⟩;have V13:=Za (V12.out.call q);have Tr_13:=Za (Tr_12.out.pw hW hltz);have Tq1:=Za (hE.ge (B:=wa.heap.size) V12.out.wr.size);clear q hW hE;obtain⟨fl,fz⟩:=V13.out.facts;have f4:w13.cell? ⟨gs,4,none⟩=some (.pointer none):=V13.out.fact 4 rfl
           have V14:VS C Z gs (q1.2) #[.int .i64 7,.string ⟨#[]⟩,.string (ay x),.pointer pr,.pointer pq1,.pointer none,.slice none 0 0,.slice none 0 0,.slice none 0 0,.int .i64 s.n] wa (w13.setCell ⟨gs,4,none⟩ (.pointer pq1)):=(V13.out.store 4 (.pointer pq1));obtain⟨w14,hw14⟩:∃ww,ww=(w13.setCell ⟨gs,4,none⟩ (.pointer pq1)):=⟨_,rfl⟩;rw[←hw14]at V14;replace V14:=Za V14;have Tr_14:=(Tr_13.out.st hlow 4 (.pointer pq1));rw[←hw14]at Tr_14;replace Tr_14:=Za Tr_14;have Tq1_14:=(Tq1.out.st hlow 4 (.pointer pq1));rw[←hw14]at Tq1_14;replace Tq1_14:=Za Tq1_14;go_wp2_with fail;rw[←hw14];clear hw14 fl fz f4;refine(bf V14.out.mv [59] hs5.out.symm).mono ?_;rintro e w15 ⟨rfl,q,hW⟩;have V15:=Za (V14.out.call q);have Tr_15:=Za (Tr_14.out.pw hW hltz);have Tq1_15:=Za (Tq1_14.out.pw hW hltz);clear q hW;obtain⟨fl,fz⟩:=V15.out.facts;have f0:w15.cell? ⟨gs,0,none⟩=some (.int .i64 7):=V15.out.fact 0 rfl;have f1:w15.cell? ⟨gs,1,none⟩=some (.string ⟨#[]⟩):=V15.out.fact 1 rfl;have f2:w15.cell? ⟨gs,2,none⟩=some (.string (ay x)):=V15.out.fact 2 rfl
           have f3:w15.cell? ⟨gs,3,none⟩=some (.pointer pr):=V15.out.fact 3 rfl;have f4:w15.cell? ⟨gs,4,none⟩=some (.pointer pq1):=V15.out.fact 4 rfl;have f5:w15.cell? ⟨gs,5,none⟩=some (.pointer none):=V15.out.fact 5 rfl;have f6:w15.cell? ⟨gs,6,none⟩=some (.slice none 0 0):=V15.out.fact 6 rfl;have f7:w15.cell? ⟨gs,7,none⟩=some (.slice none 0 0):=V15.out.fact 7 rfl;have f8:w15.cell? ⟨gs,8,none⟩=some (.slice none 0 0):=V15.out.fact 8 rfl;have f9:w15.cell? ⟨gs,9,none⟩=some (.int .i64 s.n):=V15.out.fact 9 rfl;have hgr1:Holds w15 gr 63 iH:=V15.out.wr.holds hgr.out (by simp;omega);have g0:=hgr1.lt;have gz:=fun i=>hgr1.frozen i;have k0:w15.cell? ⟨gr,0,none⟩=some (.int .i64 0):=hgr1.cell 0;have k1:w15.cell? ⟨gr,1,none⟩=some (.string ⟨#[]⟩):=hgr1.cell 1;have k2:w15.cell? ⟨gr,2,none⟩=some (.string ⟨#[]⟩):=hgr1.cell 2;have k3:w15.cell? ⟨gr,3,none⟩=some (.pointer none):=hgr1.cell 3;have k4:w15.cell? ⟨gr,4,none⟩=some (.pointer none):=hgr1.cell 4;have k5:w15.cell? ⟨gr,5,none⟩=some (.pointer none):=hgr1.cell 5;have k6:w15.cell? ⟨gr,6,none⟩=some (.slice none 0 0):=hgr1.cell 6
           have k7:w15.cell? ⟨gr,7,none⟩=some (.slice none 0 0):=hgr1.cell 7;have k8:w15.cell? ⟨gr,8,none⟩=some (.slice none 0 0):=hgr1.cell 8;have k9:w15.cell? ⟨gr,9,none⟩=some (.int .i64 0):=hgr1.cell 9;replace hgr1:=Za hgr1;go_wp2_with fail;refine fD rfl rfl rfl (cO hgr1.out _ _ _ _ _ _ _ _ _ _) Tryz.underlying63 Tryz.sStmt ?_;rw[hF.out];exact iD.of (h:={hd0 s.n with k:=7,y:=x,e:=r.1,f:=q1.1}) V15.out ⟨Tr_15.out,Tq1_15.out,bC.nil_ _ _,aZ.nil_ _ _,Nat.zero_le 4096,xl,(by decide:7≤12),hn1⟩ (aQ.nil_ _ _) (aQ.nil_ _ _) hz0 hba.out hgr0 hgs0 tu (bU _ _ _ _ _ _ _ _ _ _ _ _)
          |false=>
           obtain⟨s3,hs3⟩:∃yy,yy=aY C [61] s2:=⟨_,rfl⟩;obtain⟨r,hr⟩:∃yy,yy=iI C (sum C) (hdx s.n x) s3:=⟨_,rfl⟩;obtain⟨s5,hs5⟩:∃yy,yy=aY C [59] r.2:=⟨_,rfl⟩;have hF:Hid (R=((r.1,.nil,.nil),s5)):=Za (by rw[hR.out,hs5,hr,hs3];unfold fV gX;simp only[hdx,hkf.out,hif,hwh,h1,h2,h3,←hs2,←hx,h4,h5];rfl)
           have hm3:m≤s3.deep:=by rw[hs3,(Stp.want _ _).dp,hs2,(Stp.name _).dp];exact hm
           have hnf:Hid (aK C s.one=(x,s2)):=Za (by rw[hx,hs2]);clear hx hs2;replace hs3:=Za hs3;replace hr:=Za hr;replace hs5:=Za hs5;replace h1:=Za h1;replace h2:=Za h2;replace hif:=Za hif;replace hwh:=Za hwh;replace h3:=Za h3;replace h4:=Za h4;replace h5:=Za h5;refine(bg VN.out.mv [114,101,116,117,114,110] h1.out).mono ?_;rintro e w1 ⟨rfl,q,hW⟩;have V1:=Za (VN.out.call q);clear q hW;go_wp2_with fail;refine(bg V1.out.mv [97,115,115,101,114,116] h2.out).mono ?_;rintro e w2 ⟨rfl,q,hW⟩;have V2:=Za (V1.out.call q);clear q hW;go_wp2_with fail;refine(aG V2.out.mv [105,102] hif.out).mono ?_;rintro e w3 ⟨rfl,q,hW⟩;have V3:=Za (V2.out.call q);clear q hW;go_wp2_with fail;refine(aG V3.out.mv [119,104,105,108,101] hwh.out).mono ?_;rintro e w4 ⟨rfl,q,hW⟩;have V4:=Za (V3.out.call q);clear q hW;go_wp2_with fail;refine(bg V4.out.mv [42] h3.out).mono ?_;rintro e w5 ⟨rfl,q,hW⟩;have V5:=Za (V4.out.call q);clear q hW;go_wp2_with fail;refine(dR V5.out.mv hnf.out).mono ?_;rintro e w6 ⟨rfl,q,xl,hW⟩;have V6:=Za (V5.out.call q);clear q hW;go_wp2_with fail
           refine(bg V6.out.mv [40] h4.out).mono ?_;rintro e w7 ⟨rfl,q,hW⟩;have V7:=Za (V6.out.call q);clear q hW;go_wp2_with fail;refine(bg V7.out.mv [91] h5.out).mono ?_;rintro e w8 ⟨rfl,q,hW⟩;have V8:=Za (V7.out.call q);clear q hW;go_wp2_with fail;refine(bf V8.out.mv [61] hs3.out.symm).mono ?_;rintro e w9 ⟨rfl,q,hW⟩;have V9:=Za (V8.out.call q);clear q hW;obtain⟨fl,fz⟩:=V9.out.facts;have f1:w9.cell? ⟨gs,1,none⟩=some (.string ⟨#[]⟩):=V9.out.fact 1 rfl;have V10:VS C Z gs (s3) #[.int .i64 0,.string (ay x),.string ⟨#[]⟩,.pointer none,.pointer none,.pointer none,.slice none 0 0,.slice none 0 0,.slice none 0 0,.int .i64 s.n] wa (w9.setCell ⟨gs,1,none⟩ (.string (ay x))):=(V9.out.store 1 (.string (ay x)));obtain⟨w10,hw10⟩:∃ww,ww=(w9.setCell ⟨gs,1,none⟩ (.string (ay x))):=⟨_,rfl⟩;rw[←hw10]at V10;replace V10:=Za V10;go_wp2_with fail;rw[←hw10];clear hw10 fl fz f1;have hcc:=yD m sum hsum hs C Z w10 s3 gs s.n x ⟨V10.out.at_,Writes.refl _ _,V10.out.hold,V10.out.lt,V10.out.hold.lt⟩ hm3 xl (by omega);rw[←hr.out]at hcc;refine hcc.mono ?_;clear hcc;rintro e w11 ⟨rfl,ve,vf,vc,va,q,hE⟩
           have V11:VS C Z gs r.2 (r.1.cells ve vf vc va (.slice none 0 0) (.slice none 0 0)) wa w11:=⟨q.at_,V10.out.wr.trans q.wr,q.hold,q.lt,hlow⟩;have Tr:=hE.ge (B:=wa.heap.size) V10.out.wr.size;obtain⟨pe,ee⟩:=Tr.e.vp;obtain⟨pf,ef⟩:=Tr.f.vp;obtain⟨pc,ec⟩:=zX Tr.c;obtain⟨Aa,ca,ea⟩:=lX Tr.a;rw[ee,ef,ec,ea]at V11 Tr;replace V11:=Za V11;replace Tr:=Za Tr;clear q hE ee ef ec ea;go_wp2_with fail;refine(bf V11.out.mv [59] hs5.out.symm).mono ?_;rintro e w12 ⟨rfl,q,hW⟩;have V12:=Za (V11.out.call q);have Tr_12:=Za (Tr.out.pw hW hltz);clear q hW;obtain⟨fl,fz⟩:=V12.out.facts;have f0:w12.cell? ⟨gs,0,none⟩=some (.int .i64 r.1.k):=V12.out.fact 0 rfl;have f1:w12.cell? ⟨gs,1,none⟩=some (.string (ay r.1.x)):=V12.out.fact 1 rfl;have f2:w12.cell? ⟨gs,2,none⟩=some (.string (ay r.1.y)):=V12.out.fact 2 rfl;have f3:w12.cell? ⟨gs,3,none⟩=some (.pointer pe):=V12.out.fact 3 rfl;have f4:w12.cell? ⟨gs,4,none⟩=some (.pointer pf):=V12.out.fact 4 rfl;have f5:w12.cell? ⟨gs,5,none⟩=some (.pointer pc):=V12.out.fact 5 rfl
           have f6:w12.cell? ⟨gs,6,none⟩=some (.slice Aa r.1.args.length ca):=V12.out.fact 6 rfl;have f7:w12.cell? ⟨gs,7,none⟩=some (.slice none 0 0):=V12.out.fact 7 rfl;have f8:w12.cell? ⟨gs,8,none⟩=some (.slice none 0 0):=V12.out.fact 8 rfl;have f9:w12.cell? ⟨gs,9,none⟩=some (.int .i64 r.1.at_):=V12.out.fact 9 rfl;have hgr1:Holds w12 gr 63 iH:=V12.out.wr.holds hgr.out (by simp;omega);have g0:=hgr1.lt;have gz:=fun i=>hgr1.frozen i;have k0:w12.cell? ⟨gr,0,none⟩=some (.int .i64 0):=hgr1.cell 0;have k1:w12.cell? ⟨gr,1,none⟩=some (.string ⟨#[]⟩):=hgr1.cell 1;have k2:w12.cell? ⟨gr,2,none⟩=some (.string ⟨#[]⟩):=hgr1.cell 2;have k3:w12.cell? ⟨gr,3,none⟩=some (.pointer none):=hgr1.cell 3;have k4:w12.cell? ⟨gr,4,none⟩=some (.pointer none):=hgr1.cell 4;have k5:w12.cell? ⟨gr,5,none⟩=some (.pointer none):=hgr1.cell 5;have k6:w12.cell? ⟨gr,6,none⟩=some (.slice none 0 0):=hgr1.cell 6;have k7:w12.cell? ⟨gr,7,none⟩=some (.slice none 0 0):=hgr1.cell 7;have k8:w12.cell? ⟨gr,8,none⟩=some (.slice none 0 0):=hgr1.cell 8;have k9:w12.cell? ⟨gr,9,none⟩=some (.int .i64 0):=hgr1.cell 9
           replace hgr1:=Za hgr1;go_wp2_with fail;refine fD rfl rfl rfl (cO hgr1.out _ _ _ _ _ _ _ _ _ _) Tryz.underlying63 Tryz.sStmt ?_;rw[hF.out];exact iD.of (h:=r.1) V12.out Tr_12.out (aQ.nil_ _ _) (aQ.nil_ _ _) hz0 hba.out hgr0 hgs0 tu (bU _ _ _ _ _ _ _ _ _ _ _ _)
end Go.Proofs.YtpndglghpojjkaaGreat
