/-
  15 texts of the proof, in one file: no condition.
-/
import Derived.Maps.OwnSet
import Derived.Maps.RangeWalk
import Derived.StringKeys
import Derived.Shelf.Abstract
import Derived.OwnWalk
import Derived.Lib.SliceRun
import Derived.Test.YtpndglghpojjkaaGreatPea3
set_option maxRecDepth 1000000
set_option maxHeartbeats 8000000
namespace Go.Proofs.YtpndglghpojjkaaGreat
open Go.RowKit Go.Deep
theorem conds_all:∀d,d≤40→ReadsC 192 (40-d) (fun C=>notD C d)∧ReadsC 167 (40-d) (fun C=>andD C d)∧ReadsC 131 (40-d) (fun C=>condD C d)
 |0,_=>by
  have h1:ReadsC 192 40 (fun C=>notD C 0):=not_step 40 (fun C=>sumD C 0) (fun _ s=>(.nil,s)) (fun _ s=>(.nil,s)) (exprs_all 0 (by omega)).2.2 (ReadsC.vac _ _) (ReadsC.vac _ _) (fun C s=>sumD_stp 0 s) (fun _ s=>Stp.refl s) (fun _ s=>Stp.refl s);have h2:ReadsC 167 40 (fun C=>andD C 0):=and_step 40 (fun C=>notD C 0) h1 (fun C s=>notD_stp 0 s);exact⟨h1,h2,cond_step 40 (fun C=>andD C 0) h2 (fun C s=>andD_stp 0 s)⟩
 |d+1,hd=>by
  obtain⟨i1,i2,i3⟩:=conds_all d (by omega)
  have e:40-d=40-(d+1)+1:=by omega
  rw[e]at i1 i2 i3;have h1:ReadsC 192 (40-(d+1)) (fun C=>notD C (d+1)):=not_step _ (fun C=>sumD C (d+1)) (fun C=>condD C d) (fun C=>notD C d) (exprs_all (d+1) hd).2.2 i3 i1 (fun C s=>sumD_stp (d+1) s) (fun C s=>condD_stp d s) (fun C s=>notD_stp d s);have h2:ReadsC 167 (40-(d+1)) (fun C=>andD C (d+1)):=and_step _ (fun C=>notD C (d+1)) h1 (fun C s=>notD_stp (d+1) s);exact⟨h1,h2,cond_step _ (fun C=>andD C (d+1)) h2 (fun C s=>andD_stp (d+1) s)⟩
def AgCells (w:World) (S:Nat→Prop):List Ag→List Value→Prop
 | [],vs=>vs= []
 |a::l,vs=>∃ve vs',vs= .bool a.ptr:: .string (strV a.nm)::ve::vs'∧a.nm.length≤4096∧ExAt w S a.e ve∧AgCells w S l vs'
section
variable {w w':World} {S S':Nat→Prop}
theorem AgCells.keep (hk:∀x,x<w.heap.size→S x→w'.heap[x]? =w.heap[x]?):∀{l:List Ag} {vs:List Value},AgCells w S l vs→AgCells w' S l vs
 | [],_,h=>h
 |_::_,_,h=>by obtain⟨ve,vs',e,hn,h1,h2⟩:=h;exact⟨ve,vs',e,hn,h1.keep hk,AgCells.keep hk h2⟩
theorem AgCells.mono (hk:∀x,x<w.heap.size→S x→S' x):∀{l:List Ag} {vs:List Value},AgCells w S l vs→AgCells w S' l vs
 | [],_,h=>h
 |_::_,_,h=>by obtain⟨ve,vs',e,hn,h1,h2⟩:=h;exact⟨ve,vs',e,hn,h1.mono hk,AgCells.mono hk h2⟩
theorem AgCells.length:∀{l:List Ag} {vs:List Value},AgCells w S l vs→vs.length=l.length*3
 | [],_,h=>by rw[show _= []from h];rfl
 |_::l,_,h=>by obtain⟨ve,vs',rfl,hn,h1,h2⟩:=h;have:=AgCells.length h2;simp only[List.length_cons,this];omega
theorem AgCells.snoc:∀{l:List Ag} {vs:List Value},AgCells w S l vs→∀{a:Ag} {ve:Value},a.nm.length≤4096→ExAt w S a.e ve→AgCells w S (l++ [a]) (vs++ [.bool a.ptr,.string (strV a.nm),ve])
 | [],_,h,a,ve,hn,he=>by rw[show _= []from h];exact⟨ve,[],rfl,hn,he,rfl⟩
 |_::_,_,h,a,ve,hn,he=>by obtain⟨v1,vs',rfl,hn1,h1,h2⟩:=h;exact⟨v1,vs'++ [.bool a.ptr,.string (strV a.nm),ve],rfl,hn1,h1,AgCells.snoc h2 hn he⟩
end
def RowS (w:World) (S:Nat→Prop) (A:Option Addr) (vs:List Value):Prop:=
 vs≠[]→∃b off,A=some ⟨b,off,none⟩∧S b∧∀j u,vs[j]? =some u→w.cell? ⟨b,off+j,none⟩=some u
section
variable {w w':World} {S S':Nat→Prop} {A:Option Addr} {vs:List Value}
theorem RowS.nil_ (w:World) (S:Nat→Prop) (A:Option Addr):RowS w S A []:=fun h=>absurd rfl h
theorem RowS.lt (h:RowS w S A vs) (hn:vs≠[]) {b off:Nat} (hA:A=some ⟨b,off,none⟩):b<w.heap.size:=by
 obtain⟨b',off',e,hS,hc⟩:=h hn;rw[hA]at e;injection e with e;injection e with e1 e2;subst e1 e2;rcases vs with _| ⟨u,r⟩
 ·exact absurd rfl hn
 ·rcases Nat.lt_or_ge b w.heap.size with h1|h1
  ·exact h1
  ·have:=hc 0 u rfl;simp[World.cell?,Array.getElem?_eq_none h1]at this
theorem RowS.keep (hk:∀x,x<w.heap.size→S x→w'.heap[x]? =w.heap[x]?) (h:RowS w S A vs):RowS w' S A vs:=fun hn=>by
 obtain⟨b,off,e,hS,hc⟩:=h hn;exact⟨b,off,e,hS,fun j u hu=>(World.cell?_of_block (hk b (h.lt hn e) hS)).trans (hc j u hu)⟩
theorem RowS.mono (hk:∀x,x<w.heap.size→S x→S' x) (h:RowS w S A vs):RowS w S' A vs:=fun hn=>by
 obtain⟨b,off,e,hS,hc⟩:=h hn;exact⟨b,off,e,hk b (h.lt hn e) hS,hc⟩
theorem RowS.row {B:Nat} (h:RowS w (fun x=>x<B) A vs):Row w B A vs:=h
theorem RowS.own {base:Nat} {e:TypeId} {k n:Nat} {v:Value} (h:w.ownsRow base e k v n vs) (hS:∀g,v.ownBlock=some g→S g):∃A c,v= .slice A n c∧RowS w S A vs∧(n≤c):=by
 have hl:=h.1;rcases h.2 with⟨rfl,rfl⟩| ⟨g,cap,cur,rfl,hg,hh,hn,_⟩
 ·have:vs= []:=List.eq_nil_of_length_eq_zero (by simpa using hl);subst this;exact⟨none,0,rfl,RowS.nil_ _ _ _,Nat.le_refl _⟩
 ·refine⟨_,cap,rfl,fun _=>⟨g,0,rfl,hS g (by simp[Value.ownBlock]),fun j u hu=> ?_⟩,hn⟩;have:=h.cells (g:=g) rfl j u hu
  have hadd:(⟨g,0,none⟩:Addr).add j=⟨g,0+j,none⟩:=by unfold Addr.add;split<;>simp_all
  rw[←hadd];exact this
end
def AgsAt (w:World) (S:Nat→Prop) (l:List Ag) (v:Value):Prop:=∃A c vs,v= .slice A l.length c∧l.length≤100000∧l.length≤c∧RowS w S A vs∧AgCells w S l vs
section
variable {w w':World} {S S':Nat→Prop} {l:List Ag} {v:Value}
theorem AgsAt.keep (hk:∀x,x<w.heap.size→S x→w'.heap[x]? =w.heap[x]?) (h:AgsAt w S l v):AgsAt w' S l v:=by
 obtain⟨A,c,vs,e,h1,hc,h2,h3⟩:=h;exact⟨A,c,vs,e,h1,hc,h2.keep hk,h3.keep hk⟩
theorem AgsAt.mono (hk:∀x,x<w.heap.size→S x→S' x) (h:AgsAt w S l v):AgsAt w S' l v:=by
 obtain⟨A,c,vs,e,h1,hc,h2,h3⟩:=h;exact⟨A,c,vs,e,h1,hc,h2.mono hk,h3.mono hk⟩
theorem AgsAt.below (h:AgsAt w S l v) (hb:Below w.heap.size w w'):AgsAt w' S l v:=h.keep fun x hx _=>hb.block x hx
theorem AgsAt.pw {B g:Nat} (h:AgsAt w (Ge B) l v) (hW:Writes [some g] w w') (hg:g<B):AgsAt w' (Ge B) l v:=
 h.keep fun x hx hS=>hW.block x hx (fun e=>by simp at e;subst e;exact absurd hS (Nat.not_le_of_lt hg))
theorem AgsAt.ge {B B':Nat} (h:AgsAt w (Ge B') l v) (hB:B≤B'):AgsAt w (Ge B) l v:=h.mono fun _ _ h=>Nat.le_trans hB h
theorem AgsAt.nil_ (w:World) (S:Nat→Prop):AgsAt w S [] (.slice none 0 0):=⟨none,0,[],rfl,by simp,by simp,RowS.nil_ _ _ _,rfl⟩
end
def AgPost (C:PC) (L:PL) (r:List Ag×PS) (w:World) (e:Ending) (w':World):Prop:=∃v,e= .returned v∧Moved C L r.2 w w'∧AgsAt w' (Ge w.heap.size) r.1 v
def GeBut (B:Nat) (v:Value) (x:Nat):Prop:=B≤x∧v.ownBlock≠some x
structure ArgsL (C:PC) (L:PL) (sum:PS→Ex×PS) (m:Nat) (R:List Ag×PS) (f:Nat) (l:List Ag) (s:PS) (v:Value) (w0 w:World):Prop where
 eq:argsL C sum f l s=R
 fuel:s.e=0→C.tk.length<s.i+f∧l.length≤s.i
 dp:m≤s.deep
 mv:Moved C L s w0 w
 own:∃vs,w.ownsRow w0.heap.size 168 3 v l.length vs∧AgCells w (GeBut w0.heap.size v) l vs
theorem ownK_ge {w:World} {base:Nat} {e:TypeId} {sz:Nat} {v:Value} {n:Nat} {xs:List Value} (h:w.ownsRow base e sz v n xs) {k:Nat} (hk:v.ownBlock=some k):base≤k:=by
 rcases h.2 with⟨rfl,_⟩| ⟨g,cap,cur,rfl,hb,_⟩
 ·cases hk
 ·simp[Value.ownBlock]at hk;omega
theorem Tryz.infoArg:(Tryz.prog.info? 168).map (fun i=>(i.zero,i.size,i.bytes))=some (some (.agg #[.bool false,.string ⟨#[]⟩,.pointer none]),3,32):=by kernel_rfl
section
variable {C:PC} {L:PL} {sum:PS→Ex×PS} {m:Nat} {R:List Ag×PS} {f:Nat} {l:List Ag} {s:PS} {v:Value} {w0 w:World}
theorem ArgsL.stop (h:ArgsL C L sum m R f l s v w0 w) (hs:s.e≠0):R=([],s):=by
 rw[←h.eq]
 cases f with
 |zero=>rfl
 |succ f=>unfold argsL;rw[if_pos hs]
theorem ArgsL.go_ (h:ArgsL C L sum m R f l s v w0 w) (he:s.e=0) (hi:s.i≤C.tk.length):
  ∃f',f=f'+1∧R=if isF C [41] (sum s).2 then(l++ [⟨false,[],(sum s).1⟩],(sum s).2.next)else argsL C sum f' (l++ [⟨false,[],(sum s).1⟩]) (wantF C [44] (sum s).2):=by
 have hf:=(h.fuel he).1
 cases f with
 |zero=>omega
 |succ f=>
  refine⟨f,rfl,?_⟩;rw[←h.eq]
  conv=>lhs;unfold argsL
  rw[if_neg (by omega)]
end
theorem AgsAt.own {w:World} {base:Nat} {l:List Ag} {vs:List Value} {v:Value} (h:w.ownsRow base 168 3 v l.length vs) (h2:AgCells w (GeBut base v) l vs) (hl:l.length≤100000):AgsAt w (Ge base) l v:=by
 obtain⟨A,c,e,hr,hc⟩:=RowS.own (S:=Ge base) h (fun g hg=>ownK_ge h hg);exact⟨A,c,vs,e,hl,hc,hr,h2.mono fun x _ hx=>hx.1⟩
def left2 (L:PL) (w:World):Nat:=2*left6 L w+(if intOf ((w.cell? ⟨L.g,3,none⟩).getD undef)=0 then 1 else 0)
theorem Moved.left2 {C:PC} {L:PL} {s:PS} {w0 w:World} (h:Moved C L s w0 w):left2 L w=2*(5000-s.i)+(if s.e=0 then 1 else 0):=by
 obtain⟨a0,d0,d1,d2,d3,d4,d5,d6,dfz⟩:=h.facts;unfold Go.Proofs.YtpndglghpojjkaaGreat.left2;rw[h.left,d3];simp[intOf]
theorem left2_less {i i' e e':Nat} (h0:e=0) (hi:i'≤4096) (h1:i≤i') (h2:e'=0→i+1≤i'):2*(5000-i')+(if e'=0 then 1 else 0)<2*(5000-i)+(if e=0 then 1 else 0):=by
 rw[if_pos h0];split
 ·have:=h2 ‹_›;omega
 ·omega
theorem want_next {C:PC} {t:List UInt8} {s:PS} (h:(wantF C t s).e=0):s.i+1≤(wantF C t s).i:=by
 unfold wantF at h⊢;split
 ·exact Nat.le_refl _
 ·rename_i hi;rw[if_neg hi]at h;exact absurd h (failF_e 51 (by decide) s)
theorem Reads6.near {f m:Nat} {F:PC→PS→Ex×PS} (h:Reads6 f m F) {C:PC} {L:PL} {s:PS} {w0 w:World} {r:Ex×PS} (hM:Moved C L s w0 w) (hm:m≤s.deep) (hr:F C s=r):
  Calls Tryz.prog f #[.pointer (some ⟨L.g,0,none⟩)] w fun e w'=>∃p,e= .returned (.pointer p)∧Moved C L r.2 w0 w'∧ExAt w' (Ge w.heap.size) r.1 (.pointer p)∧Writes [some L.g] w w':=by
 subst hr;refine(h C L w s hM.at_ hm).mono ?_;rintro e w' ⟨p,rfl,h1,h2⟩;exact⟨p,rfl,hM.trans h1,h2,h1.wr⟩
theorem own_pw {w w':World} {base g:Nat} {e:TypeId} {k n:Nat} {v:Value} {xs:List Value} (h:w.ownsRow base e k v n xs) (hW:Writes [some g] w w') (hg:g<base):w'.ownsRow base e k v n xs:=
 hW.own h (by
  cases hq:v.ownBlock with
  |none=>exact .inl rfl
  |some k=>right;have:=ownK_ge h hq;simp;omega)
theorem AgCells.pw {w w':World} {base g:Nat} {v:Value} {l:List Ag} {vs:List Value} (h:AgCells w (GeBut base v) l vs) (hW:Writes [some g] w w') (hg:g<base):AgCells w' (GeBut base v) l vs:=
 h.keep fun x hx hS=>hW.block x hx fun e=>by simp at e;subst e;exact absurd hS.1 (Nat.not_le_of_lt hg)
theorem own_len {w:World} {base:Nat} {e:TypeId} {k n n':Nat} {v:Value} {xs:List Value} (h:w.ownsRow base e k v n xs) (hn:n=n'):w.ownsRow base e k v n' xs:=hn▸h
theorem GeBut.step {w3:World} {base:Nat} {v v':Value} (hv:v'.ownBlock=v.ownBlock∨v'.ownBlock=some w3.heap.size) (x:Nat) (hx:x<w3.heap.size) (h:GeBut base v x):GeBut base v' x:=by
 refine⟨h.1,?_⟩;rcases hv with hv|hv
 ·rw[hv];exact h.2
 ·rw[hv];simp;omega
theorem AgCells.push {w2 w3 w4:World} {base:Nat} {v v':Value} {l:List Ag} {vs:List Value} {a:Ag} {ve:Value} (h:AgCells w2 (GeBut base v) l vs) (ht:ExAt w2 (GeBut base v) a.e ve) (hn:a.nm.length≤4096)
  (hb:Below w2.heap.size w2 w3) (hg:w3.grownBy w4 v.ownBlock) (hv:v'.ownBlock=v.ownBlock∨v'.ownBlock=some w3.heap.size):AgCells w4 (GeBut base v') (l++ [a]) (vs++ [.bool a.ptr,.string (strV a.nm),ve]):=by
 have h3:AgCells w3 (GeBut base v) (l++ [a]) (vs++ [.bool a.ptr,.string (strV a.nm),ve]):=(h.snoc hn ht).keep fun x hx _=>hb.block x hx;have h4:AgCells w4 (GeBut base v) (l++ [a]) (vs++ [.bool a.ptr,.string (strV a.nm),ve]):=h3.keep fun x hx hS=>hg.block x hx fun e=>hS.2 e.symm;have h5:AgCells w3 (fun x=>GeBut base v x∧GeBut base v' x) (l++ [a]) (vs++ [.bool a.ptr,.string (strV a.nm),ve]):=h3.mono fun x hx hS=>⟨hS,GeBut.step hv x hx hS⟩;have h6:AgCells w4 (fun x=>GeBut base v x∧GeBut base v' x) (l++ [a]) (vs++ [.bool a.ptr,.string (strV a.nm),ve]):=h5.keep fun x hx hS=>hg.block x hx fun e=>hS.1.2 e.symm;exact h6.mono fun _ _ hS=>hS.2
theorem args_step (m:Nat) (sum:PC→PS→Ex×PS) (hsum:Reads6 130 m sum) (hs:∀C s,Stp C s (sum C s).2) (C:PC) (L:PL) (w:World) (s:PS) (hP:PAt C L s w) (hm:m≤s.deep):
  Calls Tryz.prog 133 #[.pointer (some ⟨L.g,0,none⟩)] w (AgPost C L (argsF C (sum C) s) w):=by
 obtain⟨iA,hiA,hzA0,hzA1,hzA2⟩:=info_parts Tryz.infoArg;have hM:=zi (Moved.refl hP);have hlt0:=hP.lt;have hlen:=hP.fit.len;obtain⟨R,hR⟩:∃x,x=argsF C (sum C) s:=⟨_,rfl⟩;rw[←hR]
 cases h41:isF C [41] s with
 |true=>
  have hF:Hid (R=([],s.next)):=zi (by rw[hR];unfold argsF;rw[h41];rfl);replace h41:=zi h41;clear hR hP;go_enter Tryz.func133,Tryz.ntmps133;go_wp2_with fail;refine(take_yes hM.out [41] h41.out rfl).mono ?_;rintro e w1 ⟨rfl,h1,-⟩;replace h1:=zi h1;go_wp2_with fail;go_ret;rw[hF.out];exact⟨_,rfl,h1.out,AgsAt.nil_ _ _⟩
 |false=>
  have hF:Hid (argsL C (sum C) (C.tk.length+1) [] s=R):=zi (by rw[hR];unfold argsF;rw[h41];rfl);replace h41:=zi h41;clear hR hP;go_enter Tryz.func133,Tryz.ntmps133;go_wp2_with fail;refine(take_no hM.out [41] h41.out).mono ?_;rintro e w1 ⟨rfl,h1,-⟩;have hL1:Hid (ArgsL C L (sum C) m R (C.tk.length+1) [] s (.slice none 0 0) w w1):=zi ⟨hF.out,fun _=>⟨by omega,by simp⟩,hm,h1,[],⟨rfl,.inl ⟨rfl,rfl⟩⟩,rfl⟩;clear h1 hF h41;go_wp2_with fail;go_loopw [3] (fun av wr=>∃(f:Nat) (l:List Ag) (t:PS),Hid (ArgsL C L (sum C) m R f l t av w wr)) (fun _ wr=>left2 L wr)
  case atStart=>exact⟨_,_,_,hL1⟩
  clear hL1;obtain⟨f,l,t,hL⟩:=hrel;rename World=>wl;obtain⟨a0,d0,d1,d2,d3,d4,d5,d6,dfz⟩:=hL.out.mv.facts;obtain⟨b1,b2,b3,b4,b5,b6,b7⟩:=hL.out.mv.bounds;by_cases he:t.e=0
  case neg=>
   have he':((t.e:Int)==0)=false:=by simp;omega
   have hF:=zi (hL.out.stop he);go_wp2_with fail;go_ret;rw[hF.out];exact⟨_,rfl,hL.out.mv,AgsAt.nil_ _ _⟩
  have he':((t.e:Int)==0)=true:=by simp;omega
  obtain⟨f',hff,hRR⟩:=hL.out.go_ he b3;have hfu:=hL.out.fuel he;obtain⟨r,hr⟩:∃x,x=sum C t:=⟨_,rfl⟩;have hst:=hs C t;rw[←hr]at hRR hst;have hi1:=hst.i1
  have hdp:m≤r.2.deep:=by rw[hst.dp];exact hL.out.dp
  obtain⟨vs,hown,hcells⟩:=hL.out.own;replace hr:=zi hr;replace hown:=zi hown;replace hcells:=zi hcells;replace hRR:=zi hRR;have he0:=zi he;clear hst he;go_wp2_with fail;refine(hsum.near hL.out.mv hL.out.dp hr.out.symm).mono ?_;rintro e w2 ⟨p,rfl,h2,hE2,hW2⟩;clear a0 d0 d1 d2 d3 d4 d5 d6 dfz
  have hoff:∀k,some k∈[some L.g]→¬GeBut w.heap.size u3 k:=fun k hk hg=>by simp at hk;subst hk;exact absurd hg.1 (Nat.not_le_of_lt hlt0)
  have hown2:w2.ownsRow w.heap.size 168 3 u3 l.length vs:=hW2.own hown.out (by
   cases hq:u3.ownBlock with
   |none=>exact .inl rfl
   |some k=>right;have:=ownK_ge hown.out hq;simp;omega)
  have hcells2:AgCells w2 (GeBut w.heap.size u3) l vs:=hcells.out.keep fun x hx hS=>hW2.block x hx fun e=>hoff x e hS;have hE2':ExAt w2 (GeBut w.heap.size u3) r.1 (.pointer p):=hE2.mono fun x _ hS=>⟨Nat.le_trans hL.out.mv.wr.size hS,fun e=>by have:=hown.out.lt x e;have:wl.heap.size≤x:=hS;omega⟩;have hbn:=below_new w2 (.cells #[.bool false,.string ⟨#[]⟩,.pointer p] 168);have hO3:=zi (own_below hown2 hbn)
  have hnews:Hid (∀(j:Nat) u,([.bool false,.string ⟨#[]⟩,.pointer p]:List Value)[j]? =some u→(w2.alloc (.cells #[.bool false,.string ⟨#[]⟩,.pointer p] 168)).cell? ((⟨w2.heap.size,0,none⟩:Addr).add j)=some u):=zi (fun j u hu=>by
   have hh:=Holds.new w2 168 #[.bool false,.string ⟨#[]⟩,.pointer p]
   have hadd:(⟨w2.heap.size,0,none⟩:Addr).add j=⟨w2.heap.size,j,none⟩:=by unfold Addr.add;split<;>simp_all
   rw[hadd,hh.cell]
   simpa using hu)
  have hone:Hid (∀u∈([.bool false,.string ⟨#[]⟩,.pointer p]:List Value),u.oneCell'=true):=zi (by simp;exact⟨rfl,rfl,rfl⟩);have hsz:Hid (w.heap.size≤(w2.alloc (.cells #[.bool false,.string ⟨#[]⟩,.pointer p] 168)).heap.size):=zi (Nat.le_trans h2.wr.size hbn.size);have h3:=zi (h2.below hbn);have hl1:Hid ((l++ [(⟨false,[],r.1⟩:Ag)]).length=l.length+1):=zi (by simp);replace hbn:=zi hbn;replace hcells2:=zi hcells2;replace hE2':=zi hE2';clear hE2 hW2 hoff hown2 hcells hown h2;go_wp2_with
   (at_builtin
    go_loud (refine wpList_append_own_at _ rfl (.tmp 11) (.tmp 15) 61 rfl w.heap.size 168 iA _ 3 32 rfl hiA hzA0 hzA1 hzA2 rfl (by omega) u3 l.length vs rfl hO3.out ⟨w2.heap.size,0,none⟩ 1 1 [.bool false,.string ⟨#[]⟩,.pointer p] rfl rfl hnews.out hone.out (by unfold maxLen;omega) (by omega) hsz.out ?_)
    go_loud (
     intro v5 w5 ho5 hg5 _ hv5;have hO5:Hid (w5.ownsRow w.heap.size 168 3 v5 (l++ [(⟨false,[],r.1⟩:Ag)]).length (vs++ [.bool false,.string ⟨#[]⟩,.pointer p])):=zi (own_len ho5 hl1.out.symm);have hC5:Hid (AgCells w5 (GeBut w.heap.size v5) (l++ [(⟨false,[],r.1⟩:Ag)]) (vs++ [.bool false,.string ⟨#[]⟩,.pointer p])):=zi (hcells2.out.push (a:=⟨false,[],r.1⟩) hE2'.out (by simp) hbn.out hg5 hv5)
     have h5:Hid (Moved C L r.2 w w5):=zi ⟨h3.out.at_.writes (Writes.of_grown hg5 (M:= [u3.ownBlock]) (by simp)) (fun k hk=>by have:=ownK_ge hO3.out (List.mem_singleton.1 hk).symm;omega),by
      refine h3.out.wr.then_ (Writes.of_grown hg5 (M:= [u3.ownBlock]) (by simp)) (fun k hk hm=> ?_);have:=ownK_ge hO3.out (List.mem_singleton.1 hm).symm
      omega⟩
     clear ho5 hg5 hv5))
  cases h41:isF C [41] r.2 with
  |true=>
   have hF:Hid (R=(l++ [(⟨false,[],r.1⟩:Ag)],r.2.next)):=zi (by rw[hRR.out,if_pos h41]);replace h41:=zi h41;refine(take_yes h5.out [41] h41.out rfl).mono ?_;rintro e w6 ⟨rfl,h6,hW6⟩;have hO6:=zi (own_pw hO5.out hW6 hlt0);have hC6:=zi (hC5.out.pw hW6 hlt0);replace h6:=zi h6;clear hW6;go_wp2_with fail;go_ret;rw[hF.out];exact⟨_,rfl,h6.out,AgsAt.own hO6.out hC6.out (by rw[hl1.out];omega)⟩
  |false=>
   have hF:Hid (argsL C (sum C) f' (l++ [(⟨false,[],r.1⟩:Ag)]) (wantF C [44] r.2)=R):=zi (by rw[hRR.out,if_neg (by rw[h41];simp)]);replace h41:=zi h41;refine(take_no h5.out [41] h41.out).mono ?_;rintro e w6 ⟨rfl,h6,hW6⟩;have hO6:=zi (own_pw hO5.out hW6 hlt0);have hC6:=zi (hC5.out.pw hW6 hlt0);replace h6:=zi h6;clear hW6 hO5 hC5;go_wp2_with fail;refine(want_from h6.out [44] rfl).mono ?_;rintro e w7 ⟨rfl,h7,hW7⟩;have hO7:=own_pw hO6.out hW7 hlt0;have hC7:=hC6.out.pw hW7 hlt0;have hn:=fun h=>want_next (C:=C) (t:= [44]) (s:=r.2) h;have hwi:=(Stp.want (C:=C) [44] r.2).i1;have hwd:=(Stp.want (C:=C) [44] r.2).dp
   have hL7:Hid (ArgsL C L (sum C) m R f' (l++ [(⟨false,[],r.1⟩:Ag)]) (wantF C [44] r.2) v5 w w7):=
    zi ⟨hF.out,fun h=>by have:=hn h;rw[hl1.out];omega,by rw[hwd];exact hdp,h7,_,hO7,hC7⟩
   have hm1:=hL.out.mv.left2;have hm2:=hL7.out.mv.left2;have hb7:=hL7.out.mv.bounds.2.2.1;have hless:=zi (left2_less he0.out (Nat.le_trans hb7 hlen) (by omega:t.i≤(wantF C [44] r.2).i) (fun h=>by have:=hn h;omega));replace hm1:=zi hm1;replace hm2:=zi hm2;clear hn hwi hwd hO7 hC7 hW7 h7 hb7;go_wp2_with fail;exact⟨⟨_,_,_,hL7⟩,by rw[hm1.out,hm2.out];exact hless.out⟩
def Hd.cells (h:Hd) (ve vf vc va vt vl:Value):Array Value:= #[.int .i64 h.k,.string (strV h.x),.string (strV h.y),ve,vf,vc,va,vt,vl,.int .i64 h.at_]
structure HdAt (w:World) (S:Nat→Prop) (h:Hd) (ve vf vc va:Value):Prop where
 e:ExAt w S h.e ve
 f:ExAt w S h.f vf
 c:CnAt w S h.c vc
 a:AgsAt w S h.args va
 x:h.x.length≤4096
 y:h.y.length≤4096
 k:h.k≤12
 at_:h.at_≤201
theorem HdAt.keep {w w':World} {S:Nat→Prop} {h:Hd} {ve vf vc va:Value} (hk:∀x,x<w.heap.size→S x→w'.heap[x]? =w.heap[x]?) (H:HdAt w S h ve vf vc va):HdAt w' S h ve vf vc va:=
 ⟨H.e.keep hk,H.f.keep hk,H.c.keep hk,H.a.keep hk,H.x,H.y,H.k,H.at_⟩
theorem HdAt.mono {w:World} {S S':Nat→Prop} {h:Hd} {ve vf vc va:Value} (hk:∀x,x<w.heap.size→S x→S' x) (H:HdAt w S h ve vf vc va):HdAt w S' h ve vf vc va:=
 ⟨H.e.mono hk,H.f.mono hk,H.c.mono hk,H.a.mono hk,H.x,H.y,H.k,H.at_⟩
structure VS (C:PC) (Z:PL) (gs:Nat) (s:PS) (cs:Array Value) (w0 w:World):Prop where
 at_:PAt C Z s w
 wr:Writes [some Z.g,some gs] w0 w
 hold:Holds w gs 63 cs
 lt:Z.g<gs
 low:gs<w0.heap.size
section
variable {C:PC} {Z:PL} {gs:Nat} {s s2:PS} {cs:Array Value} {w0 w w':World}
theorem VS.mv (h:VS C Z gs s cs w0 w):Moved C Z s w w:=Moved.refl h.at_
theorem VS.call (h:VS C Z gs s cs w0 w) (hm:Moved C Z s2 w w'):VS C Z gs s2 cs w0 w':=
 ⟨hm.at_,h.wr.trans (hm.wr.more (by simp)),hm.wr.holds h.hold (by have:=h.lt;simp;omega),h.lt,h.low⟩
theorem VS.store (h:VS C Z gs s cs w0 w) (i:Nat) (v:Value):VS C Z gs s (cs.setIfInBounds i v) w0 (w.setCell ⟨gs,i,none⟩ v):=
 ⟨h.at_.writes (Writes.store w (M:= [some gs]) (by simp) v) (fun k hk=>by simp at hk;subst hk;exact h.lt),h.wr.trans (Writes.store w (by simp) v),h.hold.store i v,h.lt,h.low⟩
theorem VS.facts (h:VS C Z gs s cs w0 w):gs<w.heap.size∧(∀i,w.frozen? ⟨gs,i,none⟩=false):=⟨h.hold.lt,fun i=>h.hold.frozen i⟩
theorem VS.fact (h:VS C Z gs s cs w0 w) (i:Nat) {v:Value} (hv:cs[i]? =some v):w.cell? ⟨gs,i,none⟩=some v:=by rw[h.hold.cell];exact hv
theorem ExAt.st {B:Nat} {e:Ex} {v:Value} (h:ExAt w (Ge B) e v) (hg:gs<B) (i:Nat) (u:Value):ExAt (w.setCell ⟨gs,i,none⟩ u) (Ge B) e v:=h.pw (Writes.store w (by simp) u) hg
theorem AgsAt.st {B:Nat} {l:List Ag} {v:Value} (h:AgsAt w (Ge B) l v) (hg:gs<B) (i:Nat) (u:Value):AgsAt (w.setCell ⟨gs,i,none⟩ u) (Ge B) l v:=h.pw (Writes.store w (by simp) u) hg
theorem CnAt.st {B:Nat} {l:Cn} {v:Value} (h:CnAt w (Ge B) l v) (hg:gs<B) (i:Nat) (u:Value):CnAt (w.setCell ⟨gs,i,none⟩ u) (Ge B) l v:=h.pw (Writes.store w (by simp) u) hg
end
def ValPost (C:PC) (Z:PL) (gs:Nat) (r:Hd×PS) (w:World) (e:Ending) (w':World):Prop:=
 e= .returned (.tuple #[])∧∃ve vf vc va,VS C Z gs r.2 (r.1.cells ve vf vc va (.slice none 0 0) (.slice none 0 0)) w w'∧HdAt w' (Ge w.heap.size) r.1 ve vf vc va
def hdx (n:Nat) (x:List UInt8):Hd:={hd0 n with x:=x}
theorem value_step (m:Nat) (sum:PC→PS→Ex×PS) (hsum:Reads6 130 m sum) (hs:∀C s,Stp C s (sum C s).2) (C:PC) (Z:PL) (w:World) (s:PS) (gs n:Nat) (x:List UInt8)
  (hV:VS C Z gs s ((hdx n x).cells (.pointer none) (.pointer none) (.pointer none) (.slice none 0 0) (.slice none 0 0) (.slice none 0 0)) w w) (hm:m≤s.deep) (hx:x.length≤4096) (hn:n≤201):
  Calls Tryz.prog 134 #[.pointer (some ⟨Z.g,0,none⟩),.pointer (some ⟨gs,0,none⟩)] w (ValPost C Z gs (valueF C (sum C) (hdx n x) s) w):=by
 obtain⟨b1,b2,b3,b4,b5,b6,b7⟩:=hV.at_.bounds;obtain⟨R,hR⟩:∃y,y=valueF C (sum C) (hdx n x) s:=⟨_,rfl⟩;rw[←hR];have hlt0:=hV.at_.lt;have hlow:=hV.low;have hVV:=zi hV;have hM:=zi hV.mv;clear hV
 cases h1:isF C [110,117,108,108] s with
 |true=>
  have hF:Hid (R=({hdx n x with k:=3},s.next)):=zi (by rw[hR];unfold valueF;rw[h1];rfl);replace h1:=zi h1;clear hR;go_enter Tryz.func134,Tryz.ntmps134;go_wp2_with fail;refine(take_yes hVV.out.mv [110,117,108,108] h1.out rfl).mono ?_;rintro e w1 ⟨rfl,h1,-⟩;have hV1:=hVV.out.call h1;obtain⟨f1,fz⟩:=hV1.facts;have f0:=hV1.fact 0 rfl;replace hV1:=zi hV1;clear h1;go_wp2_with fail;go_end0;rw[hF.out];exact⟨rfl,_,_,_,_,hV1.out.store 0 _,ExAt.nil_ _ _,ExAt.nil_ _ _,CnAt.nil_ _ _,AgsAt.nil_ _ _,hx,by simp[hdx,hd0],by simp,hn⟩
 |false=>
  cases h2:isF C [38] s with
  |true=>
   obtain⟨y,hy⟩:∃y,y=(nameF C s.next).1:=⟨_,rfl⟩;obtain⟨s2,hs2⟩:∃y,y=(nameF C s.next).2:=⟨_,rfl⟩;have hnf:Hid (nameF C s.next=(y,s2)):=zi (by rw[hy,hs2]);have hF:Hid (R=({hdx n x with k:=1,y:=y},s2)):=zi (by rw[hR,hy,hs2];unfold valueF;simp only[h1,h2];rfl);replace h1:=zi h1;replace h2:=zi h2;clear hR hy hs2;go_enter Tryz.func134,Tryz.ntmps134;go_wp2_with fail;refine(take_no hM.out [110,117,108,108] h1.out).mono ?_;rintro e v0 ⟨rfl,g0,-⟩;replace g0:=zi g0;go_wp2_with fail;refine(take_yes g0.out [38] h2.out rfl).mono ?_;rintro e w1 ⟨rfl,q1,-⟩;replace q1:=zi q1;go_wp2_with fail;refine(name_from q1.out hnf.out).mono ?_;rintro e w2 ⟨rfl,q2,hyl,-⟩;have hV2:=hVV.out.call q2;obtain⟨f1,fz⟩:=hV2.facts;have f0:=hV2.fact 0 rfl;have f2:=hV2.fact 2 rfl;replace hV2:=zi hV2;clear q2 q1;go_wp2_with fail;go_end0;rw[hF.out];exact⟨rfl,_,_,_,_,(hV2.out.store 0 _).store 2 _,ExAt.nil_ _ _,ExAt.nil_ _ _,CnAt.nil_ _ _,AgsAt.nil_ _ _,hx,hyl,by simp,hn⟩
  |false=>
   cases h3:isF C [42] s with
   |true=>
    obtain⟨y,hy⟩:∃y,y=(nameF C s.next).1:=⟨_,rfl⟩;obtain⟨s2,hs2⟩:∃y,y=(nameF C s.next).2:=⟨_,rfl⟩;have hnf:Hid (nameF C s.next=(y,s2)):=zi (by rw[hy,hs2]);have hF:Hid (R=({hdx n x with k:=4,y:=y},s2)):=zi (by rw[hR,hy,hs2];unfold valueF;simp only[h1,h2,h3];rfl);replace h1:=zi h1;replace h2:=zi h2;replace h3:=zi h3;clear hR hy hs2;go_enter Tryz.func134,Tryz.ntmps134;go_wp2_with fail;refine(take_no hM.out [110,117,108,108] h1.out).mono ?_;rintro e v0 ⟨rfl,g0,-⟩;replace g0:=zi g0;go_wp2_with fail;refine(take_no g0.out [38] h2.out).mono ?_;rintro e v1 ⟨rfl,g1,-⟩;replace g1:=zi g1;go_wp2_with fail;refine(take_yes g1.out [42] h3.out rfl).mono ?_;rintro e w1 ⟨rfl,q1,-⟩;replace q1:=zi q1;go_wp2_with fail;refine(name_from q1.out hnf.out).mono ?_;rintro e w2 ⟨rfl,q2,hyl,-⟩;have hV2:=hVV.out.call q2;obtain⟨f1,fz⟩:=hV2.facts;have f0:=hV2.fact 0 rfl;have f2:=hV2.fact 2 rfl;replace hV2:=zi hV2;clear q2 q1;go_wp2_with fail;go_end0;rw[hF.out];exact⟨rfl,_,_,_,_,(hV2.out.store 0 _).store 2 _,ExAt.nil_ _ _,ExAt.nil_ _ _,CnAt.nil_ _ _,AgsAt.nil_ _ _,hx,hyl,by simp,hn⟩
   |false=>
    obtain⟨na,hna⟩:∃y,y=(namedF C s&&(decide (s.i+1<C.tk.length)&&txtAt C (s.i+1)== [91])):=⟨_,rfl⟩;obtain⟨nb,hnb⟩:∃y,y=(namedF C s&&(decide (s.i+1<C.tk.length)&&txtAt C (s.i+1)== [40])):=⟨_,rfl⟩;have hF:Hid (R=if na then({hdx n x with k:=6,y:=(nameF C s).1,e:=(sum C (nameF C s).2.next).1},wantF C [93] (sum C (nameF C s).2.next).2)else if nb then({hdx n x with k:=8,y:=(nameF C s).1,args:=(argsF C (sum C) (nameF C s).2.next).1},(argsF C (sum C) (nameF C s).2.next).2)else({hdx n x with k:=0,e:=(sum C s).1},(sum C s).2)):=zi (by rw[hR,hna,hnb];unfold valueF;simp only[h1,h2,h3];rfl);replace h1:=zi h1;replace h2:=zi h2;replace h3:=zi h3;replace hna:=zi hna;replace hnb:=zi hnb;clear hR;go_enter Tryz.func134,Tryz.ntmps134;go_wp2_with fail;refine(take_no hM.out [110,117,108,108] h1.out).mono ?_;rintro e v0 ⟨rfl,g0,-⟩;replace g0:=zi g0;go_wp2_with fail;refine(take_no g0.out [38] h2.out).mono ?_;rintro e v1 ⟨rfl,g1,-⟩;replace g1:=zi g1;go_wp2_with fail;refine(take_no g1.out [42] h3.out).mono ?_;rintro e v2 ⟨rfl,g2,-⟩;replace g2:=zi g2
    go_upto_region 7 with(fail);go_cut [40] (fun bv wc=>bv= .bool na∧Hid (Moved C Z s w wc))
    case first=>
     have hgo:=g2;have hw2:=i64_next (i:=s.i) (by omega)
     have p1:(0:Int)≤(s.i:Int)+1:=by omega
     have p3:((s.i:Int)+1).toNat=s.i+1:=by omega
     cases hn:namedF C s with
     |false=>
      have hN2:Hid (na=false):=zi (by rw[hna.out,hn];rfl);replace hn:=zi hn;refine wp_region_tabL ((eqv (.pointer (some ⟨Z.g,0,none⟩)))::(eqv (.bool false))::(eqv (.bool false))::eud::eud::eud::eud::eud::eud::eud::eud::eud::eud::eud::(eqv (.bool false))::(eqv (.bool false))::eud::eud::eud::eud::eud::eud::eud::eud::eud::eud::eud::eud::eud::(eqv (.bool false))::(eqv (.bool false))::[])
       ((rn1 0)::(rd1 41 0)::(rd1 42 1)::(rq1 0 43 2)::(rg1 44 3 43 2)::(rg1 45 4 43 2)::(rg1 46 5 43 2)::(rg1 47 6 43 2)::(rq1 0 43 2)::(rg1 49 8 43 2)::(rg1 50 9 43 2)::(rg1 51 10 43 2)::(rg1 52 11 43 2)::⟨[(48,some 7),(53,some 12),(43,some 2)],43,[]⟩::⟨[(43,some 2),(54,some 13)],0,[]⟩::(rd1 55 14)::(rq1 0 56 15)::(rg1 57 16 56 15)::(rg1 58 17 56 15)::(rg1 59 18 56 15)::(rq1 0 56 15)::(rg1 61 20 56 15)::(rg1 62 21 56 15)::(rg1 63 22 56 15)::(rg1 64 23 56 15)::⟨[(60,some 19),(65,some 24),(56,some 15)],56,[]⟩::(rg1 66 25 56 15)::(rg1 67 26 56 15)::(rg1 68 27 56 15)::⟨[(56,some 15),(69,some 28)],0,[]⟩::(rd1 70 29)::[])
       (no::no::no::no::no::no::no::no::no::no::no::no::no::no::no::no::no::no::no::no::no::no::no::no::no::no::no::no::no::no::no::no::no::no::no::no::no::no::no::no::so 30::so 0::so 1::so 2::so 3::so 4::so 5::so 6::so 7::so 8::so 9::so 10::so 11::so 12::so 13::so 14::so 15::so 16::so 17::so 18::so 19::so 20::so 21::so 22::so 23::so 24::so 25::so 26::so 27::so 28::so 29::[])
       (fun _ w'=>Moved C Z s w w') (fun _ _ _=>True) ?mixK7vf ?okK7vf ?tabK7vf ?frK7vf ?inK7vf ?keptK7vf ?startK7vf ?eachK7vf ?finK7vf
      case mixK7vf|okK7vf|tabK7vf|frK7vf=>kernel_rfl
      case inK7vf=>rfl
      case keptK7vf=>((repeat refine⟨fun _ _ _ _ _ _ _ _ _ _ _ h=>h,?_⟩);exact trivial)
      case startK7vf=>exact hgo.out.below (Below.refl _ _).drew
      case eachK7vf=>
       repeat' first|exact trivial|refine And.intro ?_ ?_
       ·intro w L f hC hLi hLd hLn ⟨d,_⟩;refine Step2.live rfl ?_;exact relUpon_value (v:=f 0) rfl (hC) (trivial) d
       ·intro w L f hC hLi hLd hLn ⟨a,_⟩;change _=_ at a;refine Step2.live rfl ?_;obtain⟨ev,ec,ef⟩:=evs f;refine relUpon_call (f:=64) (args:= #[.pointer (some ⟨Z.g,0,none⟩)]) (w:=w) (by go_simp) (named_from hC hn.out) ?_;rintro e w1 ⟨he,h1,-⟩;exact⟨_,he,h1,trivial,rfl⟩
       ·intro w L f hC hLi hLd hLn ⟨d,_⟩;refine Step2.live rfl ?_;exact relUpon_value (v:=f 42) rfl (hC) (trivial) d
       iterate 10 (intro w L f hC hLi hLd hLn ⟨_,d,_⟩;refine StepL2.dead (show wantedBy _ (f 43)=false by rw[show f 43=_ from d];rfl) (hC) ?_ (trivial);exact rfl)
       ·intro w L f hC hLi hLd hLn ⟨_,_,d,_⟩;refine StepL2.dead (show wantedBy _ (f 43)=false by rw[show f 43=_ from d];rfl) (hC) ?_ (trivial);exact rfl
       ·intro w L f hC hLi hLd hLn ⟨a,b,_⟩;change _=_ at a b;refine Step2.live rfl ?_;obtain⟨u0,u1,u2,u3,u4,u5,u6,u7,ufz⟩:=hC.facts;obtain⟨ev,ec,ef⟩:=evs f;refine relUpon_value ?_ hC trivial rfl;go_simp
       ·intro w L f hC hLi hLd hLn ⟨d,_⟩;refine Step2.live rfl ?_;exact relUpon_value (v:=f 55) rfl (hC) (trivial) d
       iterate 9 (intro w L f hC hLi hLd hLn ⟨_,d,_⟩;refine StepL2.dead (show wantedBy _ (f 56)=false by rw[show f 56=_ from d];rfl) (hC) ?_ (trivial);exact rfl)
       ·intro w L f hC hLi hLd hLn ⟨_,_,d,_⟩;refine StepL2.dead (show wantedBy _ (f 56)=false by rw[show f 56=_ from d];rfl) (hC) ?_ (trivial);exact rfl
       iterate 3 (intro w L f hC hLi hLd hLn ⟨_,d,_⟩;refine StepL2.dead (show wantedBy _ (f 56)=false by rw[show f 56=_ from d];rfl) (hC) ?_ (trivial);exact rfl)
       ·intro w L f hC hLi hLd hLn ⟨a,b,_⟩;change _=_ at a b;refine Step2.live rfl ?_;obtain⟨u0,u1,u2,u3,u4,u5,u6,u7,ufz⟩:=hC.facts;obtain⟨ev,ec,ef⟩:=evs f;refine relUpon_value ?_ hC trivial rfl;go_simp
       ·intro w L f hC hLi hLd hLn ⟨d,_⟩;refine Step2.live rfl ?_;exact relUpon_value (v:=f 70) rfl (hC) (trivial) d
      intro x w' hC hV
      have e0:x 30= .bool na:=(hV 30 _ rfl rfl).trans (by rw[hN2.out]);clear hV;simp only[framed];rw[e0];have hC:=zi hC;go_wp2_with fail
      go_meet
      case rel=>exact⟨rfl,hC⟩
     |true=>
      by_cases hi2:s.i+1<C.tk.length
      case neg=>
       have hi2':¬((s.i:Int)+1<(C.tk.length:Int)):=by omega
       have hN2:Hid (na=false):=zi (by rw[hna.out,decide_eq_false hi2];simp);replace hn:=zi hn;refine wp_region_tabL ((eqv (.pointer (some ⟨Z.g,0,none⟩)))::(eqv (.bool true))::(eqv (.bool true))::(eqv (.pointer (some ⟨Z.g,0,none⟩)))::(eqv (.pointer (some ⟨Z.g,0,none⟩)))::(eqv (.pointer (some ⟨Z.g,1,none⟩)))::(eqv (.int .i64 ((s.i:Int))))::(eqv (.int .i64 ((s.i:Int)+1)))::(eqv (.pointer (some ⟨Z.g,0,none⟩)))::(eqv (.pointer (some ⟨Z.g,0,none⟩)))::(eqv (.pointer (some ⟨Z.g,0,none⟩)))::(eqv (.slice Z.A C.tk.length Z.c))::(eqv (.int .i64 ((C.tk.length:Int))))::(eqv (.bool false))::(eqv (.bool false))::(eqv (.bool false))::eud::eud::eud::eud::eud::eud::eud::eud::eud::eud::eud::eud::eud::(eqv (.bool false))::(eqv (.bool false))::[])
        ((rn1 0)::(rd1 41 0)::(rd1 42 1)::(rq1 0 43 2)::(rg1 44 3 43 2)::(rg1 45 4 43 2)::(rg1 46 5 43 2)::(rg1 47 6 43 2)::(rq1 0 43 2)::(rg1 49 8 43 2)::(rg1 50 9 43 2)::(rg1 51 10 43 2)::(rg1 52 11 43 2)::⟨[(48,some 7),(53,some 12),(43,some 2)],43,[]⟩::⟨[(43,some 2),(54,some 13)],0,[]⟩::(rd1 55 14)::(rq1 0 56 15)::(rg1 57 16 56 15)::(rg1 58 17 56 15)::(rg1 59 18 56 15)::(rq1 0 56 15)::(rg1 61 20 56 15)::(rg1 62 21 56 15)::(rg1 63 22 56 15)::(rg1 64 23 56 15)::⟨[(60,some 19),(65,some 24),(56,some 15)],56,[]⟩::(rg1 66 25 56 15)::(rg1 67 26 56 15)::(rg1 68 27 56 15)::⟨[(56,some 15),(69,some 28)],0,[]⟩::(rd1 70 29)::[])
        (no::no::no::no::no::no::no::no::no::no::no::no::no::no::no::no::no::no::no::no::no::no::no::no::no::no::no::no::no::no::no::no::no::no::no::no::no::no::no::no::so 30::so 0::so 1::so 2::so 3::so 4::so 5::so 6::so 7::so 8::so 9::so 10::so 11::so 12::so 13::so 14::so 15::so 16::so 17::so 18::so 19::so 20::so 21::so 22::so 23::so 24::so 25::so 26::so 27::so 28::so 29::[])
        (fun _ w'=>Moved C Z s w w') (fun _ _ _=>True) ?mixK7vtf ?okK7vtf ?tabK7vtf ?frK7vtf ?inK7vtf ?keptK7vtf ?startK7vtf ?eachK7vtf ?finK7vtf
       case mixK7vtf|okK7vtf|tabK7vtf|frK7vtf=>kernel_rfl
       case inK7vtf=>rfl
       case keptK7vtf=>((repeat refine⟨fun _ _ _ _ _ _ _ _ _ _ _ h=>h,?_⟩);exact trivial)
       case startK7vtf=>exact hgo.out.below (Below.refl _ _).drew
       case eachK7vtf=>
        repeat' first|exact trivial|refine And.intro ?_ ?_
        ·intro w L f hC hLi hLd hLn ⟨d,_⟩;refine Step2.live rfl ?_;exact relUpon_value (v:=f 0) rfl (hC) (trivial) d
        ·intro w L f hC hLi hLd hLn ⟨a,_⟩;change _=_ at a;refine Step2.live rfl ?_;obtain⟨ev,ec,ef⟩:=evs f;refine relUpon_call (f:=64) (args:= #[.pointer (some ⟨Z.g,0,none⟩)]) (w:=w) (by go_simp) (named_from hC hn.out) ?_;rintro e w1 ⟨he,h1,-⟩;exact⟨_,he,h1,trivial,rfl⟩
        ·intro w L f hC hLi hLd hLn ⟨d,_⟩;refine Step2.live rfl ?_;exact relUpon_value (v:=f 42) rfl (hC) (trivial) d
        ·intro w L f hC hLi hLd hLn ⟨d0,d43,_⟩;change _=_ at d0 d43;refine Step2.live (show wantedBy _ (f 43)=true by rw[d43];rfl) ?_;exact relUpon_value (v:=f 0) rfl (hC) (trivial) d0
        iterate 4 (intro w L f hC hLi hLd hLn ⟨a,d43,_⟩;change _=_ at a d43;refine Step2.live (show wantedBy _ (f 43)=true by rw[d43];rfl) ?_;obtain⟨u0,u1,u2,u3,u4,u5,u6,u7,ufz⟩:=hC.facts;obtain⟨ev,ec,ef⟩:=evs f;refine relUpon_value ?_ hC trivial rfl;go_simp)
        ·intro w L f hC hLi hLd hLn ⟨d0,d43,_⟩;change _=_ at d0 d43;refine Step2.live (show wantedBy _ (f 43)=true by rw[d43];rfl) ?_;exact relUpon_value (v:=f 0) rfl (hC) (trivial) d0
        iterate 4 (intro w L f hC hLi hLd hLn ⟨a,d43,_⟩;change _=_ at a d43;refine Step2.live (show wantedBy _ (f 43)=true by rw[d43];rfl) ?_;obtain⟨u0,u1,u2,u3,u4,u5,u6,u7,ufz⟩:=hC.facts;obtain⟨ev,ec,ef⟩:=evs f;refine relUpon_value ?_ hC trivial rfl;go_simp)
        ·intro w L f hC hLi hLd hLn ⟨a,b,d43,_⟩;change _=_ at a b d43;refine Step2.live (show wantedBy _ (f 43)=true by rw[d43];rfl) ?_;obtain⟨u0,u1,u2,u3,u4,u5,u6,u7,ufz⟩:=hC.facts;obtain⟨ev,ec,ef⟩:=evs f;refine relUpon_value ?_ hC trivial rfl;go_simp
        ·intro w L f hC hLi hLd hLn ⟨a,b,_⟩;change _=_ at a b;refine Step2.live rfl ?_;obtain⟨u0,u1,u2,u3,u4,u5,u6,u7,ufz⟩:=hC.facts;obtain⟨ev,ec,ef⟩:=evs f;refine relUpon_value ?_ hC trivial rfl;go_simp
        ·intro w L f hC hLi hLd hLn ⟨d,_⟩;refine Step2.live rfl ?_;exact relUpon_value (v:=f 55) rfl (hC) (trivial) d
        iterate 9 (intro w L f hC hLi hLd hLn ⟨_,d,_⟩;refine StepL2.dead (show wantedBy _ (f 56)=false by rw[show f 56=_ from d];rfl) (hC) ?_ (trivial);exact rfl)
        ·intro w L f hC hLi hLd hLn ⟨_,_,d,_⟩;refine StepL2.dead (show wantedBy _ (f 56)=false by rw[show f 56=_ from d];rfl) (hC) ?_ (trivial);exact rfl
        iterate 3 (intro w L f hC hLi hLd hLn ⟨_,d,_⟩;refine StepL2.dead (show wantedBy _ (f 56)=false by rw[show f 56=_ from d];rfl) (hC) ?_ (trivial);exact rfl)
        ·intro w L f hC hLi hLd hLn ⟨a,b,_⟩;change _=_ at a b;refine Step2.live rfl ?_;obtain⟨u0,u1,u2,u3,u4,u5,u6,u7,ufz⟩:=hC.facts;obtain⟨ev,ec,ef⟩:=evs f;refine relUpon_value ?_ hC trivial rfl;go_simp
        ·intro w L f hC hLi hLd hLn ⟨d,_⟩;refine Step2.live rfl ?_;exact relUpon_value (v:=f 70) rfl (hC) (trivial) d
       intro x w' hC hV
       have e0:x 30= .bool na:=(hV 30 _ rfl rfl).trans (by rw[hN2.out]);clear hV;simp only[framed];rw[e0];have hC:=zi hC;go_wp2_with fail
       go_meet
       case rel=>exact⟨rfl,hC⟩
      case pos=>
       obtain⟨x1,hx1⟩:∃x,C.tk[s.i+1]? =some x:=⟨_,List.getElem?_eq_getElem hi2⟩;obtain⟨b,off,hA,hbg,_⟩:=hVV.out.at_.tok (k:=s.i) (by omega)
       have hT1:txtAt C (s.i+1)=x1.t:=by unfold txtAt;rw[hx1]
       have hN:na=(x1.t== [91]):=by rw[hna.out,hn,hT1,decide_eq_true hi2];rfl
       have hi2':((s.i:Int)+1<(C.tk.length:Int)):=by omega
       clear hT1;replace hn:=zi hn;replace hx1:=zi hx1;by_cases q1:x1.t= [91]
       case pos=>
        have k1:((strV x1.t).toList== [91])=true:=by rw[strV_toList,q1];rfl
        have hN2:Hid (na=true):=zi (by rw[hN,q1];rfl);clear hN q1
        refine wp_region_tabL ((eqv (.pointer (some ⟨Z.g,0,none⟩)))::(eqv (.bool true))::(eqv (.bool true))::(eqv (.pointer (some ⟨Z.g,0,none⟩)))::(eqv (.pointer (some ⟨Z.g,0,none⟩)))::(eqv (.pointer (some ⟨Z.g,1,none⟩)))::(eqv (.int .i64 ((s.i:Int))))::(eqv (.int .i64 ((s.i:Int)+1)))::(eqv (.pointer (some ⟨Z.g,0,none⟩)))::(eqv (.pointer (some ⟨Z.g,0,none⟩)))::(eqv (.pointer (some ⟨Z.g,0,none⟩)))::(eqv (.slice (some ⟨b,off,none⟩) C.tk.length Z.c))::(eqv (.int .i64 ((C.tk.length:Int))))::(eqv (.bool true))::(eqv (.bool true))::(eqv (.bool true))::(eqv (.pointer (some ⟨Z.g,0,none⟩)))::(eqv (.pointer (some ⟨Z.g,0,none⟩)))::(eqv (.pointer (some ⟨Z.g,0,none⟩)))::(eqv (.slice (some ⟨b,off,none⟩) C.tk.length Z.c))::(eqv (.pointer (some ⟨Z.g,0,none⟩)))::(eqv (.pointer (some ⟨Z.g,0,none⟩)))::(eqv (.pointer (some ⟨Z.g,1,none⟩)))::(eqv (.int .i64 ((s.i:Int))))::(eqv (.int .i64 ((s.i:Int)+1)))::(eqv (.pointer (some ⟨b,off+(s.i+1)*3,none⟩)))::(eqv (.pointer (some ⟨b,off+(s.i+1)*3+1,none⟩)))::(eqv (.string (strV x1.t)))::(eqv (.bool true))::(eqv (.bool true))::(eqv (.bool true))::[])
         ((rn1 0)::(rd1 41 0)::(rd1 42 1)::(rq1 0 43 2)::(rg1 44 3 43 2)::(rg1 45 4 43 2)::(rg1 46 5 43 2)::(rg1 47 6 43 2)::(rq1 0 43 2)::(rg1 49 8 43 2)::(rg1 50 9 43 2)::(rg1 51 10 43 2)::(rg1 52 11 43 2)::⟨[(48,some 7),(53,some 12),(43,some 2)],43,[]⟩::⟨[(43,some 2),(54,some 13)],0,[]⟩::(rd1 55 14)::(rq1 0 56 15)::(rg1 57 16 56 15)::(rg1 58 17 56 15)::(rg1 59 18 56 15)::(rq1 0 56 15)::(rg1 61 20 56 15)::(rg1 62 21 56 15)::(rg1 63 22 56 15)::(rg1 64 23 56 15)::⟨[(60,some 19),(65,some 24),(56,some 15)],56,[]⟩::(rg1 66 25 56 15)::(rg1 67 26 56 15)::(rg1 68 27 56 15)::⟨[(56,some 15),(69,some 28)],0,[]⟩::(rd1 70 29)::[])
         (no::no::no::no::no::no::no::no::no::no::no::no::no::no::no::no::no::no::no::no::no::no::no::no::no::no::no::no::no::no::no::no::no::no::no::no::no::no::no::no::so 30::so 0::so 1::so 2::so 3::so 4::so 5::so 6::so 7::so 8::so 9::so 10::so 11::so 12::so 13::so 14::so 15::so 16::so 17::so 18::so 19::so 20::so 21::so 22::so 23::so 24::so 25::so 26::so 27::so 28::so 29::[])
         (fun _ w'=>Moved C Z s w w') (fun _ _ _=>True) ?mixK7vttt ?okK7vttt ?tabK7vttt ?frK7vttt ?inK7vttt ?keptK7vttt ?startK7vttt ?eachK7vttt ?finK7vttt
        case mixK7vttt|okK7vttt|tabK7vttt|frK7vttt=>kernel_rfl
        case inK7vttt=>rfl
        case keptK7vttt=>((repeat refine⟨fun _ _ _ _ _ _ _ _ _ _ _ h=>h,?_⟩);exact trivial)
        case startK7vttt=>exact hgo.out.below (Below.refl _ _).drew
        case eachK7vttt=>
         repeat' first|exact trivial|refine And.intro ?_ ?_
         ·intro w L f hC hLi hLd hLn ⟨d,_⟩;refine Step2.live rfl ?_;exact relUpon_value (v:=f 0) rfl (hC) (trivial) d
         ·intro w L f hC hLi hLd hLn ⟨a,_⟩;change _=_ at a;refine Step2.live rfl ?_;obtain⟨ev,ec,ef⟩:=evs f;refine relUpon_call (f:=64) (args:= #[.pointer (some ⟨Z.g,0,none⟩)]) (w:=w) (by go_simp) (named_from hC hn.out) ?_;rintro e w1 ⟨he,h1,-⟩;exact⟨_,he,h1,trivial,rfl⟩
         ·intro w L f hC hLi hLd hLn ⟨d,_⟩;refine Step2.live rfl ?_;exact relUpon_value (v:=f 42) rfl (hC) (trivial) d
         ·intro w L f hC hLi hLd hLn ⟨d0,d43,_⟩;change _=_ at d0 d43;refine Step2.live (show wantedBy _ (f 43)=true by rw[d43];rfl) ?_;exact relUpon_value (v:=f 0) rfl (hC) (trivial) d0
         iterate 4 (intro w L f hC hLi hLd hLn ⟨a,d43,_⟩;change _=_ at a d43;refine Step2.live (show wantedBy _ (f 43)=true by rw[d43];rfl) ?_;obtain⟨u0,u1,u2,u3,u4,u5,u6,u7,ufz⟩:=hC.facts;obtain⟨ev,ec,ef⟩:=evs f;refine relUpon_value ?_ hC trivial rfl;go_simp)
         ·intro w L f hC hLi hLd hLn ⟨d0,d43,_⟩;change _=_ at d0 d43;refine Step2.live (show wantedBy _ (f 43)=true by rw[d43];rfl) ?_;exact relUpon_value (v:=f 0) rfl (hC) (trivial) d0
         iterate 4 (intro w L f hC hLi hLd hLn ⟨a,d43,_⟩;change _=_ at a d43;refine Step2.live (show wantedBy _ (f 43)=true by rw[d43];rfl) ?_;obtain⟨u0,u1,u2,u3,u4,u5,u6,u7,ufz⟩:=hC.facts;obtain⟨ev,ec,ef⟩:=evs f;refine relUpon_value ?_ hC trivial rfl;go_simp)
         ·intro w L f hC hLi hLd hLn ⟨a,b,d43,_⟩;change _=_ at a b d43;refine Step2.live (show wantedBy _ (f 43)=true by rw[d43];rfl) ?_;obtain⟨u0,u1,u2,u3,u4,u5,u6,u7,ufz⟩:=hC.facts;obtain⟨ev,ec,ef⟩:=evs f;refine relUpon_value ?_ hC trivial rfl;go_simp
         ·intro w L f hC hLi hLd hLn ⟨a,b,_⟩;change _=_ at a b;refine Step2.live rfl ?_;obtain⟨u0,u1,u2,u3,u4,u5,u6,u7,ufz⟩:=hC.facts;obtain⟨ev,ec,ef⟩:=evs f;refine relUpon_value ?_ hC trivial rfl;go_simp
         ·intro w L f hC hLi hLd hLn ⟨d,_⟩;refine Step2.live rfl ?_;exact relUpon_value (v:=f 55) rfl (hC) (trivial) d
         ·intro w L f hC hLi hLd hLn ⟨d0,d56,_⟩;change _=_ at d0 d56;refine Step2.live (show wantedBy _ (f 56)=true by rw[d56];rfl) ?_;exact relUpon_value (v:=f 0) rfl (hC) (trivial) d0
         iterate 3 (intro w L f hC hLi hLd hLn ⟨a,d56,_⟩;change _=_ at a d56;refine Step2.live (show wantedBy _ (f 56)=true by rw[d56];rfl) ?_;obtain⟨u0,u1,u2,u3,u4,u5,u6,u7,ufz⟩:=hC.facts;obtain⟨ev,ec,ef⟩:=evs f;refine relUpon_value ?_ hC trivial rfl;go_simp)
         ·intro w L f hC hLi hLd hLn ⟨d0,d56,_⟩;change _=_ at d0 d56;refine Step2.live (show wantedBy _ (f 56)=true by rw[d56];rfl) ?_;exact relUpon_value (v:=f 0) rfl (hC) (trivial) d0
         iterate 4 (intro w L f hC hLi hLd hLn ⟨a,d56,_⟩;change _=_ at a d56;refine Step2.live (show wantedBy _ (f 56)=true by rw[d56];rfl) ?_;obtain⟨u0,u1,u2,u3,u4,u5,u6,u7,ufz⟩:=hC.facts;obtain⟨ev,ec,ef⟩:=evs f;refine relUpon_value ?_ hC trivial rfl;go_simp)
         ·intro w L f hC hLi hLd hLn ⟨a,b,d56,_⟩;change _=_ at a b d56;refine Step2.live (show wantedBy _ (f 56)=true by rw[d56];rfl) ?_;obtain⟨u0,u1,u2,u3,u4,u5,u6,u7,ufz⟩:=hC.facts;obtain⟨ev,ec,ef⟩:=evs f;refine relUpon_value ?_ hC trivial rfl;go_simp
         ·intro w L f hC hLi hLd hLn ⟨a,d56,_⟩;change _=_ at a d56;refine Step2.live (show wantedBy _ (f 56)=true by rw[d56];rfl) ?_;obtain⟨u0,u1,u2,u3,u4,u5,u6,u7,ufz⟩:=hC.facts;obtain⟨ev,ec,ef⟩:=evs f;refine relUpon_value ?_ hC trivial rfl;go_simp
         ·intro w L f hC hLi hLd hLn ⟨a,d56,_⟩;change _=_ at a d56;refine Step2.live (show wantedBy _ (f 56)=true by rw[d56];rfl) ?_;obtain⟨u0,u1,u2⟩:=hC.tok hx1.out hA;obtain⟨ev,ec,ef⟩:=evs f;refine relUpon_value ?_ hC trivial rfl;go_simp
         ·intro w L f hC hLi hLd hLn ⟨a,d56,_⟩;change _=_ at a d56;refine Step2.live (show wantedBy _ (f 56)=true by rw[d56];rfl) ?_;obtain⟨u0,u1,u2,u3,u4,u5,u6,u7,ufz⟩:=hC.facts;obtain⟨ev,ec,ef⟩:=evs f;refine relUpon_value ?_ hC trivial rfl;go_simp
         ·intro w L f hC hLi hLd hLn ⟨a,b,_⟩;change _=_ at a b;refine Step2.live rfl ?_;obtain⟨u0,u1,u2,u3,u4,u5,u6,u7,ufz⟩:=hC.facts;obtain⟨ev,ec,ef⟩:=evs f;refine relUpon_value ?_ hC trivial rfl;go_simp
         ·intro w L f hC hLi hLd hLn ⟨d,_⟩;refine Step2.live rfl ?_;exact relUpon_value (v:=f 70) rfl (hC) (trivial) d
        intro x w' hC hV
        have e0:x 30= .bool na:=(hV 30 _ rfl rfl).trans (by rw[hN2.out]);clear hV;simp only[framed];rw[e0];have hC:=zi hC;go_wp2_with fail
        go_meet
        case rel=>exact⟨rfl,hC⟩
       case neg=>
        have k1:((strV x1.t).toList== [91])=false:=by rw[strV_toList];simpa using q1
        have hN2:Hid (na=false):=zi (by rw[hN];simpa using q1);clear hN q1
        refine wp_region_tabL ((eqv (.pointer (some ⟨Z.g,0,none⟩)))::(eqv (.bool true))::(eqv (.bool true))::(eqv (.pointer (some ⟨Z.g,0,none⟩)))::(eqv (.pointer (some ⟨Z.g,0,none⟩)))::(eqv (.pointer (some ⟨Z.g,1,none⟩)))::(eqv (.int .i64 ((s.i:Int))))::(eqv (.int .i64 ((s.i:Int)+1)))::(eqv (.pointer (some ⟨Z.g,0,none⟩)))::(eqv (.pointer (some ⟨Z.g,0,none⟩)))::(eqv (.pointer (some ⟨Z.g,0,none⟩)))::(eqv (.slice (some ⟨b,off,none⟩) C.tk.length Z.c))::(eqv (.int .i64 ((C.tk.length:Int))))::(eqv (.bool true))::(eqv (.bool true))::(eqv (.bool true))::(eqv (.pointer (some ⟨Z.g,0,none⟩)))::(eqv (.pointer (some ⟨Z.g,0,none⟩)))::(eqv (.pointer (some ⟨Z.g,0,none⟩)))::(eqv (.slice (some ⟨b,off,none⟩) C.tk.length Z.c))::(eqv (.pointer (some ⟨Z.g,0,none⟩)))::(eqv (.pointer (some ⟨Z.g,0,none⟩)))::(eqv (.pointer (some ⟨Z.g,1,none⟩)))::(eqv (.int .i64 ((s.i:Int))))::(eqv (.int .i64 ((s.i:Int)+1)))::(eqv (.pointer (some ⟨b,off+(s.i+1)*3,none⟩)))::(eqv (.pointer (some ⟨b,off+(s.i+1)*3+1,none⟩)))::(eqv (.string (strV x1.t)))::(eqv (.bool false))::(eqv (.bool false))::(eqv (.bool false))::[])
         ((rn1 0)::(rd1 41 0)::(rd1 42 1)::(rq1 0 43 2)::(rg1 44 3 43 2)::(rg1 45 4 43 2)::(rg1 46 5 43 2)::(rg1 47 6 43 2)::(rq1 0 43 2)::(rg1 49 8 43 2)::(rg1 50 9 43 2)::(rg1 51 10 43 2)::(rg1 52 11 43 2)::⟨[(48,some 7),(53,some 12),(43,some 2)],43,[]⟩::⟨[(43,some 2),(54,some 13)],0,[]⟩::(rd1 55 14)::(rq1 0 56 15)::(rg1 57 16 56 15)::(rg1 58 17 56 15)::(rg1 59 18 56 15)::(rq1 0 56 15)::(rg1 61 20 56 15)::(rg1 62 21 56 15)::(rg1 63 22 56 15)::(rg1 64 23 56 15)::⟨[(60,some 19),(65,some 24),(56,some 15)],56,[]⟩::(rg1 66 25 56 15)::(rg1 67 26 56 15)::(rg1 68 27 56 15)::⟨[(56,some 15),(69,some 28)],0,[]⟩::(rd1 70 29)::[])
         (no::no::no::no::no::no::no::no::no::no::no::no::no::no::no::no::no::no::no::no::no::no::no::no::no::no::no::no::no::no::no::no::no::no::no::no::no::no::no::no::so 30::so 0::so 1::so 2::so 3::so 4::so 5::so 6::so 7::so 8::so 9::so 10::so 11::so 12::so 13::so 14::so 15::so 16::so 17::so 18::so 19::so 20::so 21::so 22::so 23::so 24::so 25::so 26::so 27::so 28::so 29::[])
         (fun _ w'=>Moved C Z s w w') (fun _ _ _=>True) ?mixK7vttf ?okK7vttf ?tabK7vttf ?frK7vttf ?inK7vttf ?keptK7vttf ?startK7vttf ?eachK7vttf ?finK7vttf
        case mixK7vttf|okK7vttf|tabK7vttf|frK7vttf=>kernel_rfl
        case inK7vttf=>rfl
        case keptK7vttf=>((repeat refine⟨fun _ _ _ _ _ _ _ _ _ _ _ h=>h,?_⟩);exact trivial)
        case startK7vttf=>exact hgo.out.below (Below.refl _ _).drew
        case eachK7vttf=>
         repeat' first|exact trivial|refine And.intro ?_ ?_
         ·intro w L f hC hLi hLd hLn ⟨d,_⟩;refine Step2.live rfl ?_;exact relUpon_value (v:=f 0) rfl (hC) (trivial) d
         ·intro w L f hC hLi hLd hLn ⟨a,_⟩;change _=_ at a;refine Step2.live rfl ?_;obtain⟨ev,ec,ef⟩:=evs f;refine relUpon_call (f:=64) (args:= #[.pointer (some ⟨Z.g,0,none⟩)]) (w:=w) (by go_simp) (named_from hC hn.out) ?_;rintro e w1 ⟨he,h1,-⟩;exact⟨_,he,h1,trivial,rfl⟩
         ·intro w L f hC hLi hLd hLn ⟨d,_⟩;refine Step2.live rfl ?_;exact relUpon_value (v:=f 42) rfl (hC) (trivial) d
         ·intro w L f hC hLi hLd hLn ⟨d0,d43,_⟩;change _=_ at d0 d43;refine Step2.live (show wantedBy _ (f 43)=true by rw[d43];rfl) ?_;exact relUpon_value (v:=f 0) rfl (hC) (trivial) d0
         iterate 4 (intro w L f hC hLi hLd hLn ⟨a,d43,_⟩;change _=_ at a d43;refine Step2.live (show wantedBy _ (f 43)=true by rw[d43];rfl) ?_;obtain⟨u0,u1,u2,u3,u4,u5,u6,u7,ufz⟩:=hC.facts;obtain⟨ev,ec,ef⟩:=evs f;refine relUpon_value ?_ hC trivial rfl;go_simp)
         ·intro w L f hC hLi hLd hLn ⟨d0,d43,_⟩;change _=_ at d0 d43;refine Step2.live (show wantedBy _ (f 43)=true by rw[d43];rfl) ?_;exact relUpon_value (v:=f 0) rfl (hC) (trivial) d0
         iterate 4 (intro w L f hC hLi hLd hLn ⟨a,d43,_⟩;change _=_ at a d43;refine Step2.live (show wantedBy _ (f 43)=true by rw[d43];rfl) ?_;obtain⟨u0,u1,u2,u3,u4,u5,u6,u7,ufz⟩:=hC.facts;obtain⟨ev,ec,ef⟩:=evs f;refine relUpon_value ?_ hC trivial rfl;go_simp)
         ·intro w L f hC hLi hLd hLn ⟨a,b,d43,_⟩;change _=_ at a b d43;refine Step2.live (show wantedBy _ (f 43)=true by rw[d43];rfl) ?_;obtain⟨u0,u1,u2,u3,u4,u5,u6,u7,ufz⟩:=hC.facts;obtain⟨ev,ec,ef⟩:=evs f;refine relUpon_value ?_ hC trivial rfl;go_simp
         ·intro w L f hC hLi hLd hLn ⟨a,b,_⟩;change _=_ at a b;refine Step2.live rfl ?_;obtain⟨u0,u1,u2,u3,u4,u5,u6,u7,ufz⟩:=hC.facts;obtain⟨ev,ec,ef⟩:=evs f;refine relUpon_value ?_ hC trivial rfl;go_simp
         ·intro w L f hC hLi hLd hLn ⟨d,_⟩;refine Step2.live rfl ?_;exact relUpon_value (v:=f 55) rfl (hC) (trivial) d
         ·intro w L f hC hLi hLd hLn ⟨d0,d56,_⟩;change _=_ at d0 d56;refine Step2.live (show wantedBy _ (f 56)=true by rw[d56];rfl) ?_;exact relUpon_value (v:=f 0) rfl (hC) (trivial) d0
         iterate 3 (intro w L f hC hLi hLd hLn ⟨a,d56,_⟩;change _=_ at a d56;refine Step2.live (show wantedBy _ (f 56)=true by rw[d56];rfl) ?_;obtain⟨u0,u1,u2,u3,u4,u5,u6,u7,ufz⟩:=hC.facts;obtain⟨ev,ec,ef⟩:=evs f;refine relUpon_value ?_ hC trivial rfl;go_simp)
         ·intro w L f hC hLi hLd hLn ⟨d0,d56,_⟩;change _=_ at d0 d56;refine Step2.live (show wantedBy _ (f 56)=true by rw[d56];rfl) ?_;exact relUpon_value (v:=f 0) rfl (hC) (trivial) d0
         iterate 4 (intro w L f hC hLi hLd hLn ⟨a,d56,_⟩;change _=_ at a d56;refine Step2.live (show wantedBy _ (f 56)=true by rw[d56];rfl) ?_;obtain⟨u0,u1,u2,u3,u4,u5,u6,u7,ufz⟩:=hC.facts;obtain⟨ev,ec,ef⟩:=evs f;refine relUpon_value ?_ hC trivial rfl;go_simp)
         ·intro w L f hC hLi hLd hLn ⟨a,b,d56,_⟩;change _=_ at a b d56;refine Step2.live (show wantedBy _ (f 56)=true by rw[d56];rfl) ?_;obtain⟨u0,u1,u2,u3,u4,u5,u6,u7,ufz⟩:=hC.facts;obtain⟨ev,ec,ef⟩:=evs f;refine relUpon_value ?_ hC trivial rfl;go_simp
         ·intro w L f hC hLi hLd hLn ⟨a,d56,_⟩;change _=_ at a d56;refine Step2.live (show wantedBy _ (f 56)=true by rw[d56];rfl) ?_;obtain⟨u0,u1,u2,u3,u4,u5,u6,u7,ufz⟩:=hC.facts;obtain⟨ev,ec,ef⟩:=evs f;refine relUpon_value ?_ hC trivial rfl;go_simp
         ·intro w L f hC hLi hLd hLn ⟨a,d56,_⟩;change _=_ at a d56;refine Step2.live (show wantedBy _ (f 56)=true by rw[d56];rfl) ?_;obtain⟨u0,u1,u2⟩:=hC.tok hx1.out hA;obtain⟨ev,ec,ef⟩:=evs f;refine relUpon_value ?_ hC trivial rfl;go_simp
         ·intro w L f hC hLi hLd hLn ⟨a,d56,_⟩;change _=_ at a d56;refine Step2.live (show wantedBy _ (f 56)=true by rw[d56];rfl) ?_;obtain⟨u0,u1,u2,u3,u4,u5,u6,u7,ufz⟩:=hC.facts;obtain⟨ev,ec,ef⟩:=evs f;refine relUpon_value ?_ hC trivial rfl;go_simp
         ·intro w L f hC hLi hLd hLn ⟨a,b,_⟩;change _=_ at a b;refine Step2.live rfl ?_;obtain⟨u0,u1,u2,u3,u4,u5,u6,u7,ufz⟩:=hC.facts;obtain⟨ev,ec,ef⟩:=evs f;refine relUpon_value ?_ hC trivial rfl;go_simp
         ·intro w L f hC hLi hLd hLn ⟨d,_⟩;refine Step2.live rfl ?_;exact relUpon_value (v:=f 70) rfl (hC) (trivial) d
        intro x w' hC hV
        have e0:x 30= .bool na:=(hV 30 _ rfl rfl).trans (by rw[hN2.out]);clear hV;simp only[framed];rw[e0];have hC:=zi hC;go_wp2_with fail
        go_meet
        case rel=>exact⟨rfl,hC⟩
    case rest=>
     obtain⟨rfl,hgna⟩:=hcut
     cases hnav:na with
     |true=>
      obtain⟨y,hy⟩:∃y,y=(nameF C s).1:=⟨_,rfl⟩;obtain⟨s2,hs2⟩:∃y,y=(nameF C s).2:=⟨_,rfl⟩;have hnf:Hid (nameF C s=(y,s2)):=zi (by rw[hy,hs2]);have hnx:=hna.out;rw[hnav]at hnx
      have hi3:s2.i<C.tk.length:=by
       have:=namedAt_next hnx.symm;have h3:=this.i2;have h4:=this.i1;rw[hs2];have hlt:=hnx;simp only[Bool.true_eq,Bool.and_eq_true,decide_eq_true_eq]at hlt
       have e:(nameF C s).2=s.next:=by unfold nameF;rw[if_pos hlt.1]
       rw[e];exact hlt.2.1
      have hd2:m≤s2.next.deep:=by rw[hs2];simp only[PS.next];rw[(Stp.name (C:=C) s).dp];exact hm
      obtain⟨r,hr⟩:∃y,y=sum C s2.next:=⟨_,rfl⟩;obtain⟨s4,hs4⟩:∃y,y=wantF C [93] r.2:=⟨_,rfl⟩;replace hF:Hid (R=({hdx n x with k:=6,y:=y,e:=r.1},s4)):=zi (by rw[hF.out,hnav,if_pos rfl,hs4,hr,hs2,hy]);replace hr:=zi hr;replace hs4:=zi hs4;clear hnx hy hs2 hnav hna hnb;go_wp2_with fail;refine(name_from hgna.out hnf.out).mono ?_;rintro e w2 ⟨rfl,q2,hyl,-⟩;have hV2:=hVV.out.call q2;obtain⟨f1,fz⟩:=hV2.facts;have f0:=hV2.fact 0 rfl;have f2:=hV2.fact 2 rfl;have hV4:=(hV2.store 0 (.int .i64 6)).store 2 (.string (strV y));obtain⟨w4,hw4⟩:∃ww,ww=(w2.setCell ⟨gs,0,none⟩ (.int .i64 6)).setCell ⟨gs,2,none⟩ (.string (strV y)):=⟨_,rfl⟩;rw[←hw4]at hV4;clear q2 hV2;go_upto_region 9 with(fail);rw[←hw4];clear hw4 f1 fz f0 f2;obtain⟨a0,d0,d1,d2,d3,d4,d5,d6,dfz⟩:=hV4.mv.facts;have hi4:=hV4.at_.bounds.2.2.1;replace hV4:=zi hV4;have hw1:=i64_next (i:=s2.i) (by omega);go_wp2_with fail;refine(hsum.near (hV4.out.mv.next hi3) hd2 hr.out.symm).mono ?_;rintro e w5 ⟨p,rfl,q5,hE5,hW5⟩;clear a0 d0 d1 d2 d3 d4 d5 d6 dfz hw1;have hV5:=hV4.out.call q5
      have hE6:=hE5.ge (B:=w.heap.size) (Nat.le_trans hV4.out.wr.size (Nat.le_of_eq (setCell_size _ _ _).symm));obtain⟨f1,fz⟩:=hV5.facts;have f3:=hV5.fact 3 rfl;have hV6:=hV5.store 3 (.pointer p);have hE7:=hE6.st hlow 3 (.pointer p);obtain⟨w6,hw6⟩:∃y,y=w5.setCell ⟨gs,3,none⟩ (.pointer p):=⟨_,rfl⟩;rw[←hw6]at hV6 hE7;clear hE5 hW5 q5 hE6 hV5;go_wp2_with fail;rw[←hw6];clear hw6 f1 fz f3;replace hV6:=zi hV6;replace hE7:=zi hE7;refine(want_from hV6.out.mv [93] hs4.out.symm).mono ?_;rintro e w7 ⟨rfl,q7,hW7⟩;have hV7:=zi (hV6.out.call q7);have hE8:=zi (hE7.out.pw hW7 hlt0);clear q7 hW7;go_wp2_with fail;go_end0;rw[hF.out];exact⟨rfl,_,_,_,_,hV7.out,hE8.out,ExAt.nil_ _ _,CnAt.nil_ _ _,AgsAt.nil_ _ _,hx,hyl,by simp,hn⟩
     |false=>
      go_upto_region 12 with(fail);go_cut [93] (fun bv wc=>bv= .bool nb∧Hid (Moved C Z s w wc))
      case first=>
       have hgo:=hgna;have hw2:=i64_next (i:=s.i) (by omega)
       have p1:(0:Int)≤(s.i:Int)+1:=by omega
       have p3:((s.i:Int)+1).toNat=s.i+1:=by omega
       cases hn:namedF C s with
       |false=>
        have hN2:Hid (nb=false):=zi (by rw[hnb.out,hn];rfl);replace hn:=zi hn;refine wp_region_tabL ((eqv (.pointer (some ⟨Z.g,0,none⟩)))::(eqv (.bool false))::(eqv (.bool false))::eud::eud::eud::eud::eud::eud::eud::eud::eud::eud::eud::(eqv (.bool false))::(eqv (.bool false))::eud::eud::eud::eud::eud::eud::eud::eud::eud::eud::eud::eud::eud::(eqv (.bool false))::(eqv (.bool false))::[])
         ((rn1 0)::(rd1 94 0)::(rd1 95 1)::(rq1 0 96 2)::(rg1 97 3 96 2)::(rg1 98 4 96 2)::(rg1 99 5 96 2)::(rg1 100 6 96 2)::(rq1 0 96 2)::(rg1 102 8 96 2)::(rg1 103 9 96 2)::(rg1 104 10 96 2)::(rg1 105 11 96 2)::⟨[(101,some 7),(106,some 12),(96,some 2)],96,[]⟩::⟨[(96,some 2),(107,some 13)],0,[]⟩::(rd1 108 14)::(rq1 0 109 15)::(rg1 110 16 109 15)::(rg1 111 17 109 15)::(rg1 112 18 109 15)::(rq1 0 109 15)::(rg1 114 20 109 15)::(rg1 115 21 109 15)::(rg1 116 22 109 15)::(rg1 117 23 109 15)::⟨[(113,some 19),(118,some 24),(109,some 15)],109,[]⟩::(rg1 119 25 109 15)::(rg1 120 26 109 15)::(rg1 121 27 109 15)::⟨[(109,some 15),(122,some 28)],0,[]⟩::(rd1 123 29)::[])
         (no::no::no::no::no::no::no::no::no::no::no::no::no::no::no::no::no::no::no::no::no::no::no::no::no::no::no::no::no::no::no::no::no::no::no::no::no::no::no::no::no::no::no::no::no::no::no::no::no::no::no::no::no::no::no::no::no::no::no::no::no::no::no::no::no::no::no::no::no::no::no::no::no::no::no::no::no::no::no::no::no::no::no::no::no::no::no::no::no::no::no::no::no::so 30::so 0::so 1::so 2::so 3::so 4::so 5::so 6::so 7::so 8::so 9::so 10::so 11::so 12::so 13::so 14::so 15::so 16::so 17::so 18::so 19::so 20::so 21::so 22::so 23::so 24::so 25::so 26::so 27::so 28::so 29::[])
         (fun _ w'=>Moved C Z s w w') (fun _ _ _=>True) ?mixK12vf ?okK12vf ?tabK12vf ?frK12vf ?inK12vf ?keptK12vf ?startK12vf ?eachK12vf ?finK12vf
        case mixK12vf|okK12vf|tabK12vf|frK12vf=>kernel_rfl
        case inK12vf=>rfl
        case keptK12vf=>((repeat refine⟨fun _ _ _ _ _ _ _ _ _ _ _ h=>h,?_⟩);exact trivial)
        case startK12vf=>exact hgo.out.below (Below.refl _ _).drew
        case eachK12vf=>
         repeat' first|exact trivial|refine And.intro ?_ ?_
         ·intro w L f hC hLi hLd hLn ⟨d,_⟩;refine Step2.live rfl ?_;exact relUpon_value (v:=f 0) rfl (hC) (trivial) d
         ·intro w L f hC hLi hLd hLn ⟨a,_⟩;change _=_ at a;refine Step2.live rfl ?_;obtain⟨ev,ec,ef⟩:=evs f;refine relUpon_call (f:=64) (args:= #[.pointer (some ⟨Z.g,0,none⟩)]) (w:=w) (by go_simp) (named_from hC hn.out) ?_;rintro e w1 ⟨he,h1,-⟩;exact⟨_,he,h1,trivial,rfl⟩
         ·intro w L f hC hLi hLd hLn ⟨d,_⟩;refine Step2.live rfl ?_;exact relUpon_value (v:=f 95) rfl (hC) (trivial) d
         iterate 10 (intro w L f hC hLi hLd hLn ⟨_,d,_⟩;refine StepL2.dead (show wantedBy _ (f 96)=false by rw[show f 96=_ from d];rfl) (hC) ?_ (trivial);exact rfl)
         ·intro w L f hC hLi hLd hLn ⟨_,_,d,_⟩;refine StepL2.dead (show wantedBy _ (f 96)=false by rw[show f 96=_ from d];rfl) (hC) ?_ (trivial);exact rfl
         ·intro w L f hC hLi hLd hLn ⟨a,b,_⟩;change _=_ at a b;refine Step2.live rfl ?_;obtain⟨u0,u1,u2,u3,u4,u5,u6,u7,ufz⟩:=hC.facts;obtain⟨ev,ec,ef⟩:=evs f;refine relUpon_value ?_ hC trivial rfl;go_simp
         ·intro w L f hC hLi hLd hLn ⟨d,_⟩;refine Step2.live rfl ?_;exact relUpon_value (v:=f 108) rfl (hC) (trivial) d
         iterate 9 (intro w L f hC hLi hLd hLn ⟨_,d,_⟩;refine StepL2.dead (show wantedBy _ (f 109)=false by rw[show f 109=_ from d];rfl) (hC) ?_ (trivial);exact rfl)
         ·intro w L f hC hLi hLd hLn ⟨_,_,d,_⟩;refine StepL2.dead (show wantedBy _ (f 109)=false by rw[show f 109=_ from d];rfl) (hC) ?_ (trivial);exact rfl
         iterate 3 (intro w L f hC hLi hLd hLn ⟨_,d,_⟩;refine StepL2.dead (show wantedBy _ (f 109)=false by rw[show f 109=_ from d];rfl) (hC) ?_ (trivial);exact rfl)
         ·intro w L f hC hLi hLd hLn ⟨a,b,_⟩;change _=_ at a b;refine Step2.live rfl ?_;obtain⟨u0,u1,u2,u3,u4,u5,u6,u7,ufz⟩:=hC.facts;obtain⟨ev,ec,ef⟩:=evs f;refine relUpon_value ?_ hC trivial rfl;go_simp
         ·intro w L f hC hLi hLd hLn ⟨d,_⟩;refine Step2.live rfl ?_;exact relUpon_value (v:=f 123) rfl (hC) (trivial) d
        intro x w' hC hV
        have e0:x 30= .bool nb:=(hV 30 _ rfl rfl).trans (by rw[hN2.out]);clear hV;simp only[framed];rw[e0];have hC:=zi hC;go_wp2_with fail
        go_meet
        case rel=>exact⟨rfl,hC⟩
       |true=>
        by_cases hi2:s.i+1<C.tk.length
        case neg=>
         have hi2':¬((s.i:Int)+1<(C.tk.length:Int)):=by omega
         have hN2:Hid (nb=false):=zi (by rw[hnb.out,decide_eq_false hi2];simp);replace hn:=zi hn;refine wp_region_tabL ((eqv (.pointer (some ⟨Z.g,0,none⟩)))::(eqv (.bool true))::(eqv (.bool true))::(eqv (.pointer (some ⟨Z.g,0,none⟩)))::(eqv (.pointer (some ⟨Z.g,0,none⟩)))::(eqv (.pointer (some ⟨Z.g,1,none⟩)))::(eqv (.int .i64 ((s.i:Int))))::(eqv (.int .i64 ((s.i:Int)+1)))::(eqv (.pointer (some ⟨Z.g,0,none⟩)))::(eqv (.pointer (some ⟨Z.g,0,none⟩)))::(eqv (.pointer (some ⟨Z.g,0,none⟩)))::(eqv (.slice Z.A C.tk.length Z.c))::(eqv (.int .i64 ((C.tk.length:Int))))::(eqv (.bool false))::(eqv (.bool false))::(eqv (.bool false))::eud::eud::eud::eud::eud::eud::eud::eud::eud::eud::eud::eud::eud::(eqv (.bool false))::(eqv (.bool false))::[])
          ((rn1 0)::(rd1 94 0)::(rd1 95 1)::(rq1 0 96 2)::(rg1 97 3 96 2)::(rg1 98 4 96 2)::(rg1 99 5 96 2)::(rg1 100 6 96 2)::(rq1 0 96 2)::(rg1 102 8 96 2)::(rg1 103 9 96 2)::(rg1 104 10 96 2)::(rg1 105 11 96 2)::⟨[(101,some 7),(106,some 12),(96,some 2)],96,[]⟩::⟨[(96,some 2),(107,some 13)],0,[]⟩::(rd1 108 14)::(rq1 0 109 15)::(rg1 110 16 109 15)::(rg1 111 17 109 15)::(rg1 112 18 109 15)::(rq1 0 109 15)::(rg1 114 20 109 15)::(rg1 115 21 109 15)::(rg1 116 22 109 15)::(rg1 117 23 109 15)::⟨[(113,some 19),(118,some 24),(109,some 15)],109,[]⟩::(rg1 119 25 109 15)::(rg1 120 26 109 15)::(rg1 121 27 109 15)::⟨[(109,some 15),(122,some 28)],0,[]⟩::(rd1 123 29)::[])
          (no::no::no::no::no::no::no::no::no::no::no::no::no::no::no::no::no::no::no::no::no::no::no::no::no::no::no::no::no::no::no::no::no::no::no::no::no::no::no::no::no::no::no::no::no::no::no::no::no::no::no::no::no::no::no::no::no::no::no::no::no::no::no::no::no::no::no::no::no::no::no::no::no::no::no::no::no::no::no::no::no::no::no::no::no::no::no::no::no::no::no::no::no::so 30::so 0::so 1::so 2::so 3::so 4::so 5::so 6::so 7::so 8::so 9::so 10::so 11::so 12::so 13::so 14::so 15::so 16::so 17::so 18::so 19::so 20::so 21::so 22::so 23::so 24::so 25::so 26::so 27::so 28::so 29::[])
          (fun _ w'=>Moved C Z s w w') (fun _ _ _=>True) ?mixK12vtf ?okK12vtf ?tabK12vtf ?frK12vtf ?inK12vtf ?keptK12vtf ?startK12vtf ?eachK12vtf ?finK12vtf
         case mixK12vtf|okK12vtf|tabK12vtf|frK12vtf=>kernel_rfl
         case inK12vtf=>rfl
         case keptK12vtf=>((repeat refine⟨fun _ _ _ _ _ _ _ _ _ _ _ h=>h,?_⟩);exact trivial)
         case startK12vtf=>exact hgo.out.below (Below.refl _ _).drew
         case eachK12vtf=>
          repeat' first|exact trivial|refine And.intro ?_ ?_
          ·intro w L f hC hLi hLd hLn ⟨d,_⟩;refine Step2.live rfl ?_;exact relUpon_value (v:=f 0) rfl (hC) (trivial) d
          ·intro w L f hC hLi hLd hLn ⟨a,_⟩;change _=_ at a;refine Step2.live rfl ?_;obtain⟨ev,ec,ef⟩:=evs f;refine relUpon_call (f:=64) (args:= #[.pointer (some ⟨Z.g,0,none⟩)]) (w:=w) (by go_simp) (named_from hC hn.out) ?_;rintro e w1 ⟨he,h1,-⟩;exact⟨_,he,h1,trivial,rfl⟩
          ·intro w L f hC hLi hLd hLn ⟨d,_⟩;refine Step2.live rfl ?_;exact relUpon_value (v:=f 95) rfl (hC) (trivial) d
          ·intro w L f hC hLi hLd hLn ⟨d0,d96,_⟩;change _=_ at d0 d96;refine Step2.live (show wantedBy _ (f 96)=true by rw[d96];rfl) ?_;exact relUpon_value (v:=f 0) rfl (hC) (trivial) d0
          iterate 4 (intro w L f hC hLi hLd hLn ⟨a,d96,_⟩;change _=_ at a d96;refine Step2.live (show wantedBy _ (f 96)=true by rw[d96];rfl) ?_;obtain⟨u0,u1,u2,u3,u4,u5,u6,u7,ufz⟩:=hC.facts;obtain⟨ev,ec,ef⟩:=evs f;refine relUpon_value ?_ hC trivial rfl;go_simp)
          ·intro w L f hC hLi hLd hLn ⟨d0,d96,_⟩;change _=_ at d0 d96;refine Step2.live (show wantedBy _ (f 96)=true by rw[d96];rfl) ?_;exact relUpon_value (v:=f 0) rfl (hC) (trivial) d0
          iterate 4 (intro w L f hC hLi hLd hLn ⟨a,d96,_⟩;change _=_ at a d96;refine Step2.live (show wantedBy _ (f 96)=true by rw[d96];rfl) ?_;obtain⟨u0,u1,u2,u3,u4,u5,u6,u7,ufz⟩:=hC.facts;obtain⟨ev,ec,ef⟩:=evs f;refine relUpon_value ?_ hC trivial rfl;go_simp)
          ·intro w L f hC hLi hLd hLn ⟨a,b,d96,_⟩;change _=_ at a b d96;refine Step2.live (show wantedBy _ (f 96)=true by rw[d96];rfl) ?_;obtain⟨u0,u1,u2,u3,u4,u5,u6,u7,ufz⟩:=hC.facts;obtain⟨ev,ec,ef⟩:=evs f;refine relUpon_value ?_ hC trivial rfl;go_simp
          ·intro w L f hC hLi hLd hLn ⟨a,b,_⟩;change _=_ at a b;refine Step2.live rfl ?_;obtain⟨u0,u1,u2,u3,u4,u5,u6,u7,ufz⟩:=hC.facts;obtain⟨ev,ec,ef⟩:=evs f;refine relUpon_value ?_ hC trivial rfl;go_simp
          ·intro w L f hC hLi hLd hLn ⟨d,_⟩;refine Step2.live rfl ?_;exact relUpon_value (v:=f 108) rfl (hC) (trivial) d
          iterate 9 (intro w L f hC hLi hLd hLn ⟨_,d,_⟩;refine StepL2.dead (show wantedBy _ (f 109)=false by rw[show f 109=_ from d];rfl) (hC) ?_ (trivial);exact rfl)
          ·intro w L f hC hLi hLd hLn ⟨_,_,d,_⟩;refine StepL2.dead (show wantedBy _ (f 109)=false by rw[show f 109=_ from d];rfl) (hC) ?_ (trivial);exact rfl
          iterate 3 (intro w L f hC hLi hLd hLn ⟨_,d,_⟩;refine StepL2.dead (show wantedBy _ (f 109)=false by rw[show f 109=_ from d];rfl) (hC) ?_ (trivial);exact rfl)
          ·intro w L f hC hLi hLd hLn ⟨a,b,_⟩;change _=_ at a b;refine Step2.live rfl ?_;obtain⟨u0,u1,u2,u3,u4,u5,u6,u7,ufz⟩:=hC.facts;obtain⟨ev,ec,ef⟩:=evs f;refine relUpon_value ?_ hC trivial rfl;go_simp
          ·intro w L f hC hLi hLd hLn ⟨d,_⟩;refine Step2.live rfl ?_;exact relUpon_value (v:=f 123) rfl (hC) (trivial) d
         intro x w' hC hV
         have e0:x 30= .bool nb:=(hV 30 _ rfl rfl).trans (by rw[hN2.out]);clear hV;simp only[framed];rw[e0];have hC:=zi hC;go_wp2_with fail
         go_meet
         case rel=>exact⟨rfl,hC⟩
        case pos=>
         obtain⟨x1,hx1⟩:∃x,C.tk[s.i+1]? =some x:=⟨_,List.getElem?_eq_getElem hi2⟩;obtain⟨b,off,hA,hbg,_⟩:=hVV.out.at_.tok (k:=s.i) (by omega)
         have hT1:txtAt C (s.i+1)=x1.t:=by unfold txtAt;rw[hx1]
         have hN:nb=(x1.t== [40]):=by rw[hnb.out,hn,hT1,decide_eq_true hi2];rfl
         have hi2':((s.i:Int)+1<(C.tk.length:Int)):=by omega
         clear hT1;replace hn:=zi hn;replace hx1:=zi hx1;by_cases q1:x1.t= [40]
         case pos=>
          have k1:((strV x1.t).toList== [40])=true:=by rw[strV_toList,q1];rfl
          have hN2:Hid (nb=true):=zi (by rw[hN,q1];rfl);clear hN q1
          refine wp_region_tabL ((eqv (.pointer (some ⟨Z.g,0,none⟩)))::(eqv (.bool true))::(eqv (.bool true))::(eqv (.pointer (some ⟨Z.g,0,none⟩)))::(eqv (.pointer (some ⟨Z.g,0,none⟩)))::(eqv (.pointer (some ⟨Z.g,1,none⟩)))::(eqv (.int .i64 ((s.i:Int))))::(eqv (.int .i64 ((s.i:Int)+1)))::(eqv (.pointer (some ⟨Z.g,0,none⟩)))::(eqv (.pointer (some ⟨Z.g,0,none⟩)))::(eqv (.pointer (some ⟨Z.g,0,none⟩)))::(eqv (.slice (some ⟨b,off,none⟩) C.tk.length Z.c))::(eqv (.int .i64 ((C.tk.length:Int))))::(eqv (.bool true))::(eqv (.bool true))::(eqv (.bool true))::(eqv (.pointer (some ⟨Z.g,0,none⟩)))::(eqv (.pointer (some ⟨Z.g,0,none⟩)))::(eqv (.pointer (some ⟨Z.g,0,none⟩)))::(eqv (.slice (some ⟨b,off,none⟩) C.tk.length Z.c))::(eqv (.pointer (some ⟨Z.g,0,none⟩)))::(eqv (.pointer (some ⟨Z.g,0,none⟩)))::(eqv (.pointer (some ⟨Z.g,1,none⟩)))::(eqv (.int .i64 ((s.i:Int))))::(eqv (.int .i64 ((s.i:Int)+1)))::(eqv (.pointer (some ⟨b,off+(s.i+1)*3,none⟩)))::(eqv (.pointer (some ⟨b,off+(s.i+1)*3+1,none⟩)))::(eqv (.string (strV x1.t)))::(eqv (.bool true))::(eqv (.bool true))::(eqv (.bool true))::[])
           ((rn1 0)::(rd1 94 0)::(rd1 95 1)::(rq1 0 96 2)::(rg1 97 3 96 2)::(rg1 98 4 96 2)::(rg1 99 5 96 2)::(rg1 100 6 96 2)::(rq1 0 96 2)::(rg1 102 8 96 2)::(rg1 103 9 96 2)::(rg1 104 10 96 2)::(rg1 105 11 96 2)::⟨[(101,some 7),(106,some 12),(96,some 2)],96,[]⟩::⟨[(96,some 2),(107,some 13)],0,[]⟩::(rd1 108 14)::(rq1 0 109 15)::(rg1 110 16 109 15)::(rg1 111 17 109 15)::(rg1 112 18 109 15)::(rq1 0 109 15)::(rg1 114 20 109 15)::(rg1 115 21 109 15)::(rg1 116 22 109 15)::(rg1 117 23 109 15)::⟨[(113,some 19),(118,some 24),(109,some 15)],109,[]⟩::(rg1 119 25 109 15)::(rg1 120 26 109 15)::(rg1 121 27 109 15)::⟨[(109,some 15),(122,some 28)],0,[]⟩::(rd1 123 29)::[])
           (no::no::no::no::no::no::no::no::no::no::no::no::no::no::no::no::no::no::no::no::no::no::no::no::no::no::no::no::no::no::no::no::no::no::no::no::no::no::no::no::no::no::no::no::no::no::no::no::no::no::no::no::no::no::no::no::no::no::no::no::no::no::no::no::no::no::no::no::no::no::no::no::no::no::no::no::no::no::no::no::no::no::no::no::no::no::no::no::no::no::no::no::no::so 30::so 0::so 1::so 2::so 3::so 4::so 5::so 6::so 7::so 8::so 9::so 10::so 11::so 12::so 13::so 14::so 15::so 16::so 17::so 18::so 19::so 20::so 21::so 22::so 23::so 24::so 25::so 26::so 27::so 28::so 29::[])
           (fun _ w'=>Moved C Z s w w') (fun _ _ _=>True) ?mixK12vttt ?okK12vttt ?tabK12vttt ?frK12vttt ?inK12vttt ?keptK12vttt ?startK12vttt ?eachK12vttt ?finK12vttt
          case mixK12vttt|okK12vttt|tabK12vttt|frK12vttt=>kernel_rfl
          case inK12vttt=>rfl
          case keptK12vttt=>((repeat refine⟨fun _ _ _ _ _ _ _ _ _ _ _ h=>h,?_⟩);exact trivial)
          case startK12vttt=>exact hgo.out.below (Below.refl _ _).drew
          case eachK12vttt=>
           repeat' first|exact trivial|refine And.intro ?_ ?_
           ·intro w L f hC hLi hLd hLn ⟨d,_⟩;refine Step2.live rfl ?_;exact relUpon_value (v:=f 0) rfl (hC) (trivial) d
           ·intro w L f hC hLi hLd hLn ⟨a,_⟩;change _=_ at a;refine Step2.live rfl ?_;obtain⟨ev,ec,ef⟩:=evs f;refine relUpon_call (f:=64) (args:= #[.pointer (some ⟨Z.g,0,none⟩)]) (w:=w) (by go_simp) (named_from hC hn.out) ?_;rintro e w1 ⟨he,h1,-⟩;exact⟨_,he,h1,trivial,rfl⟩
           ·intro w L f hC hLi hLd hLn ⟨d,_⟩;refine Step2.live rfl ?_;exact relUpon_value (v:=f 95) rfl (hC) (trivial) d
           ·intro w L f hC hLi hLd hLn ⟨d0,d96,_⟩;change _=_ at d0 d96;refine Step2.live (show wantedBy _ (f 96)=true by rw[d96];rfl) ?_;exact relUpon_value (v:=f 0) rfl (hC) (trivial) d0
           iterate 4 (intro w L f hC hLi hLd hLn ⟨a,d96,_⟩;change _=_ at a d96;refine Step2.live (show wantedBy _ (f 96)=true by rw[d96];rfl) ?_;obtain⟨u0,u1,u2,u3,u4,u5,u6,u7,ufz⟩:=hC.facts;obtain⟨ev,ec,ef⟩:=evs f;refine relUpon_value ?_ hC trivial rfl;go_simp)
           ·intro w L f hC hLi hLd hLn ⟨d0,d96,_⟩;change _=_ at d0 d96;refine Step2.live (show wantedBy _ (f 96)=true by rw[d96];rfl) ?_;exact relUpon_value (v:=f 0) rfl (hC) (trivial) d0
           iterate 4 (intro w L f hC hLi hLd hLn ⟨a,d96,_⟩;change _=_ at a d96;refine Step2.live (show wantedBy _ (f 96)=true by rw[d96];rfl) ?_;obtain⟨u0,u1,u2,u3,u4,u5,u6,u7,ufz⟩:=hC.facts;obtain⟨ev,ec,ef⟩:=evs f;refine relUpon_value ?_ hC trivial rfl;go_simp)
           ·intro w L f hC hLi hLd hLn ⟨a,b,d96,_⟩;change _=_ at a b d96;refine Step2.live (show wantedBy _ (f 96)=true by rw[d96];rfl) ?_;obtain⟨u0,u1,u2,u3,u4,u5,u6,u7,ufz⟩:=hC.facts;obtain⟨ev,ec,ef⟩:=evs f;refine relUpon_value ?_ hC trivial rfl;go_simp
           ·intro w L f hC hLi hLd hLn ⟨a,b,_⟩;change _=_ at a b;refine Step2.live rfl ?_;obtain⟨u0,u1,u2,u3,u4,u5,u6,u7,ufz⟩:=hC.facts;obtain⟨ev,ec,ef⟩:=evs f;refine relUpon_value ?_ hC trivial rfl;go_simp
           ·intro w L f hC hLi hLd hLn ⟨d,_⟩;refine Step2.live rfl ?_;exact relUpon_value (v:=f 108) rfl (hC) (trivial) d
           ·intro w L f hC hLi hLd hLn ⟨d0,d109,_⟩;change _=_ at d0 d109;refine Step2.live (show wantedBy _ (f 109)=true by rw[d109];rfl) ?_;exact relUpon_value (v:=f 0) rfl (hC) (trivial) d0
           iterate 3 (intro w L f hC hLi hLd hLn ⟨a,d109,_⟩;change _=_ at a d109;refine Step2.live (show wantedBy _ (f 109)=true by rw[d109];rfl) ?_;obtain⟨u0,u1,u2,u3,u4,u5,u6,u7,ufz⟩:=hC.facts;obtain⟨ev,ec,ef⟩:=evs f;refine relUpon_value ?_ hC trivial rfl;go_simp)
           ·intro w L f hC hLi hLd hLn ⟨d0,d109,_⟩;change _=_ at d0 d109;refine Step2.live (show wantedBy _ (f 109)=true by rw[d109];rfl) ?_;exact relUpon_value (v:=f 0) rfl (hC) (trivial) d0
           iterate 4 (intro w L f hC hLi hLd hLn ⟨a,d109,_⟩;change _=_ at a d109;refine Step2.live (show wantedBy _ (f 109)=true by rw[d109];rfl) ?_;obtain⟨u0,u1,u2,u3,u4,u5,u6,u7,ufz⟩:=hC.facts;obtain⟨ev,ec,ef⟩:=evs f;refine relUpon_value ?_ hC trivial rfl;go_simp)
           ·intro w L f hC hLi hLd hLn ⟨a,b,d109,_⟩;change _=_ at a b d109;refine Step2.live (show wantedBy _ (f 109)=true by rw[d109];rfl) ?_;obtain⟨u0,u1,u2,u3,u4,u5,u6,u7,ufz⟩:=hC.facts;obtain⟨ev,ec,ef⟩:=evs f;refine relUpon_value ?_ hC trivial rfl;go_simp
           ·intro w L f hC hLi hLd hLn ⟨a,d109,_⟩;change _=_ at a d109;refine Step2.live (show wantedBy _ (f 109)=true by rw[d109];rfl) ?_;obtain⟨u0,u1,u2,u3,u4,u5,u6,u7,ufz⟩:=hC.facts;obtain⟨ev,ec,ef⟩:=evs f;refine relUpon_value ?_ hC trivial rfl;go_simp
           ·intro w L f hC hLi hLd hLn ⟨a,d109,_⟩;change _=_ at a d109;refine Step2.live (show wantedBy _ (f 109)=true by rw[d109];rfl) ?_;obtain⟨u0,u1,u2⟩:=hC.tok hx1.out hA;obtain⟨ev,ec,ef⟩:=evs f;refine relUpon_value ?_ hC trivial rfl;go_simp
           ·intro w L f hC hLi hLd hLn ⟨a,d109,_⟩;change _=_ at a d109;refine Step2.live (show wantedBy _ (f 109)=true by rw[d109];rfl) ?_;obtain⟨u0,u1,u2,u3,u4,u5,u6,u7,ufz⟩:=hC.facts;obtain⟨ev,ec,ef⟩:=evs f;refine relUpon_value ?_ hC trivial rfl;go_simp
           ·intro w L f hC hLi hLd hLn ⟨a,b,_⟩;change _=_ at a b;refine Step2.live rfl ?_;obtain⟨u0,u1,u2,u3,u4,u5,u6,u7,ufz⟩:=hC.facts;obtain⟨ev,ec,ef⟩:=evs f;refine relUpon_value ?_ hC trivial rfl;go_simp
           ·intro w L f hC hLi hLd hLn ⟨d,_⟩;refine Step2.live rfl ?_;exact relUpon_value (v:=f 123) rfl (hC) (trivial) d
          intro x w' hC hV
          have e0:x 30= .bool nb:=(hV 30 _ rfl rfl).trans (by rw[hN2.out]);clear hV;simp only[framed];rw[e0];have hC:=zi hC;go_wp2_with fail
          go_meet
          case rel=>exact⟨rfl,hC⟩
         case neg=>
          have k1:((strV x1.t).toList== [40])=false:=by rw[strV_toList];simpa using q1
          have hN2:Hid (nb=false):=zi (by rw[hN];simpa using q1);clear hN q1
          refine wp_region_tabL ((eqv (.pointer (some ⟨Z.g,0,none⟩)))::(eqv (.bool true))::(eqv (.bool true))::(eqv (.pointer (some ⟨Z.g,0,none⟩)))::(eqv (.pointer (some ⟨Z.g,0,none⟩)))::(eqv (.pointer (some ⟨Z.g,1,none⟩)))::(eqv (.int .i64 ((s.i:Int))))::(eqv (.int .i64 ((s.i:Int)+1)))::(eqv (.pointer (some ⟨Z.g,0,none⟩)))::(eqv (.pointer (some ⟨Z.g,0,none⟩)))::(eqv (.pointer (some ⟨Z.g,0,none⟩)))::(eqv (.slice (some ⟨b,off,none⟩) C.tk.length Z.c))::(eqv (.int .i64 ((C.tk.length:Int))))::(eqv (.bool true))::(eqv (.bool true))::(eqv (.bool true))::(eqv (.pointer (some ⟨Z.g,0,none⟩)))::(eqv (.pointer (some ⟨Z.g,0,none⟩)))::(eqv (.pointer (some ⟨Z.g,0,none⟩)))::(eqv (.slice (some ⟨b,off,none⟩) C.tk.length Z.c))::(eqv (.pointer (some ⟨Z.g,0,none⟩)))::(eqv (.pointer (some ⟨Z.g,0,none⟩)))::(eqv (.pointer (some ⟨Z.g,1,none⟩)))::(eqv (.int .i64 ((s.i:Int))))::(eqv (.int .i64 ((s.i:Int)+1)))::(eqv (.pointer (some ⟨b,off+(s.i+1)*3,none⟩)))::(eqv (.pointer (some ⟨b,off+(s.i+1)*3+1,none⟩)))::(eqv (.string (strV x1.t)))::(eqv (.bool false))::(eqv (.bool false))::(eqv (.bool false))::[])
           ((rn1 0)::(rd1 94 0)::(rd1 95 1)::(rq1 0 96 2)::(rg1 97 3 96 2)::(rg1 98 4 96 2)::(rg1 99 5 96 2)::(rg1 100 6 96 2)::(rq1 0 96 2)::(rg1 102 8 96 2)::(rg1 103 9 96 2)::(rg1 104 10 96 2)::(rg1 105 11 96 2)::⟨[(101,some 7),(106,some 12),(96,some 2)],96,[]⟩::⟨[(96,some 2),(107,some 13)],0,[]⟩::(rd1 108 14)::(rq1 0 109 15)::(rg1 110 16 109 15)::(rg1 111 17 109 15)::(rg1 112 18 109 15)::(rq1 0 109 15)::(rg1 114 20 109 15)::(rg1 115 21 109 15)::(rg1 116 22 109 15)::(rg1 117 23 109 15)::⟨[(113,some 19),(118,some 24),(109,some 15)],109,[]⟩::(rg1 119 25 109 15)::(rg1 120 26 109 15)::(rg1 121 27 109 15)::⟨[(109,some 15),(122,some 28)],0,[]⟩::(rd1 123 29)::[])
           (no::no::no::no::no::no::no::no::no::no::no::no::no::no::no::no::no::no::no::no::no::no::no::no::no::no::no::no::no::no::no::no::no::no::no::no::no::no::no::no::no::no::no::no::no::no::no::no::no::no::no::no::no::no::no::no::no::no::no::no::no::no::no::no::no::no::no::no::no::no::no::no::no::no::no::no::no::no::no::no::no::no::no::no::no::no::no::no::no::no::no::no::no::so 30::so 0::so 1::so 2::so 3::so 4::so 5::so 6::so 7::so 8::so 9::so 10::so 11::so 12::so 13::so 14::so 15::so 16::so 17::so 18::so 19::so 20::so 21::so 22::so 23::so 24::so 25::so 26::so 27::so 28::so 29::[])
           (fun _ w'=>Moved C Z s w w') (fun _ _ _=>True) ?mixK12vttf ?okK12vttf ?tabK12vttf ?frK12vttf ?inK12vttf ?keptK12vttf ?startK12vttf ?eachK12vttf ?finK12vttf
          case mixK12vttf|okK12vttf|tabK12vttf|frK12vttf=>kernel_rfl
          case inK12vttf=>rfl
          case keptK12vttf=>((repeat refine⟨fun _ _ _ _ _ _ _ _ _ _ _ h=>h,?_⟩);exact trivial)
          case startK12vttf=>exact hgo.out.below (Below.refl _ _).drew
          case eachK12vttf=>
           repeat' first|exact trivial|refine And.intro ?_ ?_
           ·intro w L f hC hLi hLd hLn ⟨d,_⟩;refine Step2.live rfl ?_;exact relUpon_value (v:=f 0) rfl (hC) (trivial) d
           ·intro w L f hC hLi hLd hLn ⟨a,_⟩;change _=_ at a;refine Step2.live rfl ?_;obtain⟨ev,ec,ef⟩:=evs f;refine relUpon_call (f:=64) (args:= #[.pointer (some ⟨Z.g,0,none⟩)]) (w:=w) (by go_simp) (named_from hC hn.out) ?_;rintro e w1 ⟨he,h1,-⟩;exact⟨_,he,h1,trivial,rfl⟩
           ·intro w L f hC hLi hLd hLn ⟨d,_⟩;refine Step2.live rfl ?_;exact relUpon_value (v:=f 95) rfl (hC) (trivial) d
           ·intro w L f hC hLi hLd hLn ⟨d0,d96,_⟩;change _=_ at d0 d96;refine Step2.live (show wantedBy _ (f 96)=true by rw[d96];rfl) ?_;exact relUpon_value (v:=f 0) rfl (hC) (trivial) d0
           iterate 4 (intro w L f hC hLi hLd hLn ⟨a,d96,_⟩;change _=_ at a d96;refine Step2.live (show wantedBy _ (f 96)=true by rw[d96];rfl) ?_;obtain⟨u0,u1,u2,u3,u4,u5,u6,u7,ufz⟩:=hC.facts;obtain⟨ev,ec,ef⟩:=evs f;refine relUpon_value ?_ hC trivial rfl;go_simp)
           ·intro w L f hC hLi hLd hLn ⟨d0,d96,_⟩;change _=_ at d0 d96;refine Step2.live (show wantedBy _ (f 96)=true by rw[d96];rfl) ?_;exact relUpon_value (v:=f 0) rfl (hC) (trivial) d0
           iterate 4 (intro w L f hC hLi hLd hLn ⟨a,d96,_⟩;change _=_ at a d96;refine Step2.live (show wantedBy _ (f 96)=true by rw[d96];rfl) ?_;obtain⟨u0,u1,u2,u3,u4,u5,u6,u7,ufz⟩:=hC.facts;obtain⟨ev,ec,ef⟩:=evs f;refine relUpon_value ?_ hC trivial rfl;go_simp)
           ·intro w L f hC hLi hLd hLn ⟨a,b,d96,_⟩;change _=_ at a b d96;refine Step2.live (show wantedBy _ (f 96)=true by rw[d96];rfl) ?_;obtain⟨u0,u1,u2,u3,u4,u5,u6,u7,ufz⟩:=hC.facts;obtain⟨ev,ec,ef⟩:=evs f;refine relUpon_value ?_ hC trivial rfl;go_simp
           ·intro w L f hC hLi hLd hLn ⟨a,b,_⟩;change _=_ at a b;refine Step2.live rfl ?_;obtain⟨u0,u1,u2,u3,u4,u5,u6,u7,ufz⟩:=hC.facts;obtain⟨ev,ec,ef⟩:=evs f;refine relUpon_value ?_ hC trivial rfl;go_simp
           ·intro w L f hC hLi hLd hLn ⟨d,_⟩;refine Step2.live rfl ?_;exact relUpon_value (v:=f 108) rfl (hC) (trivial) d
           ·intro w L f hC hLi hLd hLn ⟨d0,d109,_⟩;change _=_ at d0 d109;refine Step2.live (show wantedBy _ (f 109)=true by rw[d109];rfl) ?_;exact relUpon_value (v:=f 0) rfl (hC) (trivial) d0
           iterate 3 (intro w L f hC hLi hLd hLn ⟨a,d109,_⟩;change _=_ at a d109;refine Step2.live (show wantedBy _ (f 109)=true by rw[d109];rfl) ?_;obtain⟨u0,u1,u2,u3,u4,u5,u6,u7,ufz⟩:=hC.facts;obtain⟨ev,ec,ef⟩:=evs f;refine relUpon_value ?_ hC trivial rfl;go_simp)
           ·intro w L f hC hLi hLd hLn ⟨d0,d109,_⟩;change _=_ at d0 d109;refine Step2.live (show wantedBy _ (f 109)=true by rw[d109];rfl) ?_;exact relUpon_value (v:=f 0) rfl (hC) (trivial) d0
           iterate 4 (intro w L f hC hLi hLd hLn ⟨a,d109,_⟩;change _=_ at a d109;refine Step2.live (show wantedBy _ (f 109)=true by rw[d109];rfl) ?_;obtain⟨u0,u1,u2,u3,u4,u5,u6,u7,ufz⟩:=hC.facts;obtain⟨ev,ec,ef⟩:=evs f;refine relUpon_value ?_ hC trivial rfl;go_simp)
           ·intro w L f hC hLi hLd hLn ⟨a,b,d109,_⟩;change _=_ at a b d109;refine Step2.live (show wantedBy _ (f 109)=true by rw[d109];rfl) ?_;obtain⟨u0,u1,u2,u3,u4,u5,u6,u7,ufz⟩:=hC.facts;obtain⟨ev,ec,ef⟩:=evs f;refine relUpon_value ?_ hC trivial rfl;go_simp
           ·intro w L f hC hLi hLd hLn ⟨a,d109,_⟩;change _=_ at a d109;refine Step2.live (show wantedBy _ (f 109)=true by rw[d109];rfl) ?_;obtain⟨u0,u1,u2,u3,u4,u5,u6,u7,ufz⟩:=hC.facts;obtain⟨ev,ec,ef⟩:=evs f;refine relUpon_value ?_ hC trivial rfl;go_simp
           ·intro w L f hC hLi hLd hLn ⟨a,d109,_⟩;change _=_ at a d109;refine Step2.live (show wantedBy _ (f 109)=true by rw[d109];rfl) ?_;obtain⟨u0,u1,u2⟩:=hC.tok hx1.out hA;obtain⟨ev,ec,ef⟩:=evs f;refine relUpon_value ?_ hC trivial rfl;go_simp
           ·intro w L f hC hLi hLd hLn ⟨a,d109,_⟩;change _=_ at a d109;refine Step2.live (show wantedBy _ (f 109)=true by rw[d109];rfl) ?_;obtain⟨u0,u1,u2,u3,u4,u5,u6,u7,ufz⟩:=hC.facts;obtain⟨ev,ec,ef⟩:=evs f;refine relUpon_value ?_ hC trivial rfl;go_simp
           ·intro w L f hC hLi hLd hLn ⟨a,b,_⟩;change _=_ at a b;refine Step2.live rfl ?_;obtain⟨u0,u1,u2,u3,u4,u5,u6,u7,ufz⟩:=hC.facts;obtain⟨ev,ec,ef⟩:=evs f;refine relUpon_value ?_ hC trivial rfl;go_simp
           ·intro w L f hC hLi hLd hLn ⟨d,_⟩;refine Step2.live rfl ?_;exact relUpon_value (v:=f 123) rfl (hC) (trivial) d
          intro x w' hC hV
          have e0:x 30= .bool nb:=(hV 30 _ rfl rfl).trans (by rw[hN2.out]);clear hV;simp only[framed];rw[e0];have hC:=zi hC;go_wp2_with fail
          go_meet
          case rel=>exact⟨rfl,hC⟩
      case rest=>
       obtain⟨rfl,hgnb⟩:=hcut
       cases hnbv:nb with
       |true=>
        obtain⟨y,hy⟩:∃y,y=(nameF C s).1:=⟨_,rfl⟩;obtain⟨s2,hs2⟩:∃y,y=(nameF C s).2:=⟨_,rfl⟩;have hnf:Hid (nameF C s=(y,s2)):=zi (by rw[hy,hs2]);have hnx:=hnb.out;rw[hnbv]at hnx
        have hi3:s2.i<C.tk.length:=by
         have:=namedAt_next hnx.symm;have h3:=this.i2;have h4:=this.i1;rw[hs2];have hlt:=hnx;simp only[Bool.true_eq,Bool.and_eq_true,decide_eq_true_eq]at hlt
         have e:(nameF C s).2=s.next:=by unfold nameF;rw[if_pos hlt.1]
         rw[e];exact hlt.2.1
        have hd2:m≤s2.next.deep:=by rw[hs2];simp only[PS.next];rw[(Stp.name (C:=C) s).dp];exact hm
        obtain⟨r,hr⟩:∃y,y=argsF C (sum C) s2.next:=⟨_,rfl⟩;replace hF:Hid (R=({hdx n x with k:=8,y:=y,args:=r.1},r.2)):=zi (by rw[hF.out,hnav,hnbv,if_neg (by simp),if_pos rfl,hr,hs2,hy]);replace hr:=zi hr;clear hnx hy hs2 hnav hna hnb hnbv;go_wp2_with fail;refine(name_from hgnb.out hnf.out).mono ?_;rintro e w2 ⟨rfl,q2,hyl,-⟩;have hV2:=hVV.out.call q2;obtain⟨f1,fz⟩:=hV2.facts;have f0:=hV2.fact 0 rfl;have f2:=hV2.fact 2 rfl;have hV4:=(hV2.store 0 (.int .i64 8)).store 2 (.string (strV y));obtain⟨w4,hw4⟩:∃ww,ww=(w2.setCell ⟨gs,0,none⟩ (.int .i64 8)).setCell ⟨gs,2,none⟩ (.string (strV y)):=⟨_,rfl⟩;rw[←hw4]at hV4;clear q2 hV2;go_upto_region 14 with(fail);rw[←hw4];clear hw4 f1 fz f0 f2;obtain⟨a0,d0,d1,d2,d3,d4,d5,d6,dfz⟩:=hV4.mv.facts;have hi4:=hV4.at_.bounds.2.2.1;replace hV4:=zi hV4;have hw1:=i64_next (i:=s2.i) (by omega);have hag:=args_step m sum hsum hs C Z _ s2.next (hV4.out.mv.next hi3).at_ hd2;rw[←hr.out]at hag;replace hag:=zi hag;go_wp2_with fail;refine hag.out.mono ?_;clear hag;rintro e w5 ⟨va,rfl,q5,hE5⟩;clear a0 d0 d1 d2 d3 d4 d5 d6 dfz hw1
        have hV5:=hV4.out.call ((hV4.out.mv.next hi3).trans q5);have hE6:=hE5.ge (B:=w.heap.size) (Nat.le_trans hV4.out.wr.size (Nat.le_of_eq (setCell_size _ _ _).symm));obtain⟨f1,fz⟩:=hV5.facts;have f6:=hV5.fact 6 rfl;have hE7:=hE6.st hlow 6 va;obtain⟨A5,c5,vs5,e5,_⟩:=hE7;replace hV5:=zi hV5;have hE7:=zi (hE6.st hlow 6 va);replace e5:=zi e5;clear hE5 q5 hE6;rw[e5.out];go_wp2_with fail;go_end0;rw[hF.out,←e5.out];exact⟨rfl,_,_,_,_,hV5.out.store 6 va,ExAt.nil_ _ _,ExAt.nil_ _ _,CnAt.nil_ _ _,hE7.out,hx,hyl,by simp,hn⟩
       |false=>
        obtain⟨r,hr⟩:∃y,y=sum C s:=⟨_,rfl⟩;replace hF:Hid (R=({hdx n x with k:=0,e:=r.1},r.2)):=zi (by rw[hF.out,hnav,hnbv,if_neg (by simp),if_neg (by simp),hr]);replace hr:=zi hr;clear hnav hna hnb hnbv;go_wp2_with fail;refine(hsum.from_ hgnb.out hm hr.out.symm).mono ?_;rintro e w5 ⟨p,rfl,q5,hE5,-⟩;have hV5:=hVV.out.call q5;obtain⟨f1,fz⟩:=hV5.facts;have f0:=hV5.fact 0 rfl;have f3:=hV5.fact 3 rfl;replace hV5:=zi hV5;replace hE5:=zi hE5;clear q5;go_wp2_with fail;go_end0;rw[hF.out];exact⟨rfl,_,_,_,_,(hV5.out.store 0 _).store 3 _,(hE5.out.st hlow 0 _).st hlow 3 _,ExAt.nil_ _ _,CnAt.nil_ _ _,AgsAt.nil_ _ _,hx,by simp[hdx,hd0],by simp,hn⟩
def SlCells (w:World) (S:Nat→Prop):Sl→List Value→Prop
 | .nil,vs=>vs= []
 | .cons h t e r,vs=>∃ve vf vc va vt vl vs',vs=(h.cells ve vf vc va vt vl).toList++vs'∧HdAt w S h ve vf vc va∧
   (∃A c us,vt= .slice A t.len c∧t.len≤100000∧t.len≤c∧RowS w S A us∧SlCells w S t us)∧
   (∃A c us,vl= .slice A e.len c∧e.len≤100000∧e.len≤c∧RowS w S A us∧SlCells w S e us)∧SlCells w S r vs'
def SlAt (w:World) (S:Nat→Prop) (l:Sl) (v:Value):Prop:=∃A c us,v= .slice A l.len c∧l.len≤100000∧l.len≤c∧RowS w S A us∧SlCells w S l us
section
variable {w w':World} {S S':Nat→Prop}
theorem SlCells.keep (hk:∀x,x<w.heap.size→S x→w'.heap[x]? =w.heap[x]?):∀{l:Sl} {vs:List Value},SlCells w S l vs→SlCells w' S l vs
 | .nil,_,h=>h
 | .cons _ _ _ _,_,h=>by obtain⟨ve,vf,vc,va,vt,vl,vs',e,hH,⟨A,c,us,e1,l1,l2,r1,t1⟩,⟨A',c',us',e2,l3,l4,r2,t2⟩,hr⟩:=h;exact⟨ve,vf,vc,va,vt,vl,vs',e,hH.keep hk,⟨A,c,us,e1,l1,l2,r1.keep hk,SlCells.keep hk t1⟩,⟨A',c',us',e2,l3,l4,r2.keep hk,SlCells.keep hk t2⟩,SlCells.keep hk hr⟩
theorem SlCells.mono (hk:∀x,x<w.heap.size→S x→S' x):∀{l:Sl} {vs:List Value},SlCells w S l vs→SlCells w S' l vs
 | .nil,_,h=>h
 | .cons _ _ _ _,_,h=>by obtain⟨ve,vf,vc,va,vt,vl,vs',e,hH,⟨A,c,us,e1,l1,l2,r1,t1⟩,⟨A',c',us',e2,l3,l4,r2,t2⟩,hr⟩:=h;exact⟨ve,vf,vc,va,vt,vl,vs',e,hH.mono hk,⟨A,c,us,e1,l1,l2,r1.mono hk,SlCells.mono hk t1⟩,⟨A',c',us',e2,l3,l4,r2.mono hk,SlCells.mono hk t2⟩,SlCells.mono hk hr⟩
theorem SlCells.length:∀{l:Sl} {vs:List Value},SlCells w S l vs→vs.length=l.len*10
 | .nil,_,h=>by rw[show _= []from h];rfl
 | .cons _ _ _ r,_,h=>by obtain⟨ve,vf,vc,va,vt,vl,vs',rfl,hH,_,_,hr⟩:=h;have:=SlCells.length hr;simp only[List.length_append,this,Hd.cells,Sl.len];simp;omega
theorem SlCells.snoc:∀{l:Sl} {vs:List Value},SlCells w S l vs→∀{h:Hd} {t e:Sl} {ve vf vc va vt vl:Value},HdAt w S h ve vf vc va→SlAt w S t vt→SlAt w S e vl→SlCells w S (l.snoc h t e) (vs++(h.cells ve vf vc va vt vl).toList)
 | .nil,_,hl,h,t,e,ve,vf,vc,va,vt,vl,h1,h2,h3=>by rw[show _= []from hl];exact⟨ve,vf,vc,va,vt,vl,[],by simp,h1,h2,h3,rfl⟩
 | .cons _ _ _ _,_,hl,h,t,e,ve,vf,vc,va,vt,vl,h1,h2,h3=>by obtain⟨ve0,vf0,vc0,va0,vt0,vl0,vs',rfl,hH,x1,x2,hr⟩:=hl;exact⟨ve0,vf0,vc0,va0,vt0,vl0,vs'++(h.cells ve vf vc va vt vl).toList,by rw[List.append_assoc],hH,x1,x2,SlCells.snoc hr h1 h2 h3⟩
variable {l:Sl} {v:Value}
theorem SlAt.keep (hk:∀x,x<w.heap.size→S x→w'.heap[x]? =w.heap[x]?) (h:SlAt w S l v):SlAt w' S l v:=by
 obtain⟨A,c,us,e,h1,h2,h3,h4⟩:=h;exact⟨A,c,us,e,h1,h2,h3.keep hk,h4.keep hk⟩
theorem SlAt.mono (hk:∀x,x<w.heap.size→S x→S' x) (h:SlAt w S l v):SlAt w S' l v:=by
 obtain⟨A,c,us,e,h1,h2,h3,h4⟩:=h;exact⟨A,c,us,e,h1,h2,h3.mono hk,h4.mono hk⟩
theorem SlAt.below (h:SlAt w S l v) (hb:Below w.heap.size w w'):SlAt w' S l v:=h.keep fun x hx _=>hb.block x hx
theorem SlAt.ge {B B':Nat} (h:SlAt w (Ge B') l v) (hB:B≤B'):SlAt w (Ge B) l v:=h.mono fun _ _ h=>Nat.le_trans hB h
theorem SlAt.pw {B g:Nat} (h:SlAt w (Ge B) l v) (hW:Writes [some g] w w') (hg:g<B):SlAt w' (Ge B) l v:=
 h.keep fun x hx hS=>hW.block x hx (fun e=>by simp at e;subst e;exact absurd hS (Nat.not_le_of_lt hg))
theorem SlAt.st {B g:Nat} (h:SlAt w (Ge B) l v) (hg:g<B) (i:Nat) (u:Value):SlAt (w.setCell ⟨g,i,none⟩ u) (Ge B) l v:=h.pw (Writes.store w (by simp) u) hg
theorem SlAt.nil_ (w:World) (S:Nat→Prop):SlAt w S .nil (.slice none 0 0):=⟨none,0,[],rfl,by simp[Sl.len],by simp[Sl.len],RowS.nil_ _ _ _,rfl⟩
theorem SlAt.slice_ (h:SlAt w S l v):∃A c,v= .slice A l.len c:=by
 obtain⟨A,c,us,e,_⟩:=h;exact⟨A,c,e⟩
theorem HdAt.pw {B g:Nat} {h:Hd} {ve vf vc va:Value} (H:HdAt w (Ge B) h ve vf vc va) (hW:Writes [some g] w w') (hg:g<B):HdAt w' (Ge B) h ve vf vc va:=
 H.keep fun x hx hS=>hW.block x hx (fun e=>by simp at e;subst e;exact absurd hS (Nat.not_le_of_lt hg))
theorem HdAt.st {B g:Nat} {h:Hd} {ve vf vc va:Value} (H:HdAt w (Ge B) h ve vf vc va) (hg:g<B) (i:Nat) (u:Value):HdAt (w.setCell ⟨g,i,none⟩ u) (Ge B) h ve vf vc va:=H.pw (Writes.store w (by simp) u) hg
theorem HdAt.ge {B B':Nat} {h:Hd} {ve vf vc va:Value} (H:HdAt w (Ge B') h ve vf vc va) (hB:B≤B'):HdAt w (Ge B) h ve vf vc va:=H.mono fun _ _ h=>Nat.le_trans hB h
end
def StPost (C:PC) (L:PL) (r:(Hd×Sl×Sl)×PS) (w:World) (e:Ending) (w':World):Prop:=
 ∃ve vf vc va vt vl,e= .returned (.agg (r.1.1.cells ve vf vc va vt vl))∧Moved C L r.2 w w'∧HdAt w' (Ge w.heap.size) r.1.1 ve vf vc va∧SlAt w' (Ge w.heap.size) r.1.2.1 vt∧SlAt w' (Ge w.heap.size) r.1.2.2 vl
def SlPost (C:PC) (L:PL) (r:Sl×PS) (w:World) (e:Ending) (w':World):Prop:=∃v,e= .returned v∧Moved C L r.2 w w'∧SlAt w' (Ge w.heap.size) r.1 v
theorem ret_cellS {fn:Func} {p:Tmp} {ty:TypeId} {R:Ending→World→Prop} {a:Act} {w:World} {g:Nat} {t:TypeId} {cs:Array Value} {fs:Array Field} (h:fn.results= #[.cell p ty]) (hd0:a.defers= []) (hp:a.tmps.getD p undef= .pointer (some ⟨g,0,none⟩))
  (hg:Holds w g t cs) (hu:Tryz.prog.underlying ty=some (.struct fs)) (hi:(Tryz.prog.info? ty).map (·.size)=some cs.size)
  (hR:R (.returned (.agg cs)) w):bodyPost Tryz.prog fn R .ret a w:=by
 refine bodyPost_ret_by (v:= .agg cs) ?_ hd0 hR
 have hp':a.tmps[p]?.getD undef= .pointer (some ⟨g,0,none⟩):=by simpa[Array.getD_eq_getD_getElem?]using hp
 simp[results,h,hp',asAddr,run_loadVar_row w g t ty cs (0,0) _ hg hu rfl hi]
theorem Tryz.sStmt:(Tryz.prog.info? 63).map (·.size)=some 10:=by kernel_rfl
def put10 (w:World) (g:Nat) (c0 c1 c2 c3 c4 c5 c6 c7 c8 c9:Value):World:=
 (((((((((w.setCell ⟨g,0,none⟩ c0).setCell ⟨g,1,none⟩ c1).setCell ⟨g,2,none⟩ c2).setCell ⟨g,3,none⟩ c3).setCell ⟨g,4,none⟩ c4).setCell ⟨g,5,none⟩ c5).setCell ⟨g,6,none⟩ c6).setCell ⟨g,7,none⟩ c7).setCell ⟨g,8,none⟩ c8).setCell ⟨g,9,none⟩ c9
theorem put10_holds {w:World} {g:Nat} {t:TypeId} {a0 a1 a2 a3 a4 a5 a6 a7 a8 a9:Value} (h:Holds w g t #[a0,a1,a2,a3,a4,a5,a6,a7,a8,a9]) (c0 c1 c2 c3 c4 c5 c6 c7 c8 c9:Value):
  Holds (put10 w g c0 c1 c2 c3 c4 c5 c6 c7 c8 c9) g t #[c0,c1,c2,c3,c4,c5,c6,c7,c8,c9]:=by
 unfold put10;have:=(((((((((h.store 0 c0).store 1 c1).store 2 c2).store 3 c3).store 4 c4).store 5 c5).store 6 c6).store 7 c7).store 8 c8).store 9 c9;simpa using this
theorem put10_writes (w:World) (g:Nat) (c0 c1 c2 c3 c4 c5 c6 c7 c8 c9:Value):Writes [some g] w (put10 w g c0 c1 c2 c3 c4 c5 c6 c7 c8 c9):=by
 unfold put10;exact((((((((((Writes.store w (by simp) c0).trans (Writes.store _ (by simp) c1)).trans (Writes.store _ (by simp) c2)).trans (Writes.store _ (by simp) c3)).trans (Writes.store _ (by simp) c4)).trans (Writes.store _ (by simp) c5)).trans (Writes.store _ (by simp) c6)).trans (Writes.store _ (by simp) c7)).trans (Writes.store _ (by simp) c8)).trans (Writes.store _ (by simp) c9))
theorem StPost.of {C:PC} {Z:PL} {gs gr:Nat} {s2:PS} {h:Hd} {t e:Sl} {ve vf vc va vt vl:Value} {w wa w1 w2:World} (hV:VS C Z gs s2 (h.cells ve vf vc va vt vl) wa w1) (hH:HdAt w1 (Ge wa.heap.size) h ve vf vc va) (ht:SlAt w1 (Ge wa.heap.size) t vt) (hl:SlAt w1 (Ge wa.heap.size) e vl)
  (hz:Z.g<w.heap.size) (hb:Below w.heap.size w wa) (hgr:w.heap.size≤gr) (hgs:w.heap.size≤gs) (hgl:gr<wa.heap.size) (hW:Writes [some gr] w1 w2):StPost C Z ((h,t,e),s2) w (.returned (.agg (h.cells ve vf vc va vt vl))) w2:=by
 refine⟨_,_,_,_,_,_,rfl,⟨hV.at_.writes hW (fun k hk=> ?_),?_⟩,(hH.pw hW hgl).ge hb.size,(ht.pw hW hgl).ge hb.size,(hl.pw hW hgl).ge hb.size⟩
 ·simp at hk;subst hk;omega
 ·refine((Writes.of_below hb [some Z.g]).then_ hV.wr (fun k hk hm=> ?_)).then_ hW (fun k hk hm=> ?_)
  ·simp at hm⊢;rcases hm with rfl|rfl
   ·rfl
   ·omega
  ·simp at hm;omega
end Go.Proofs.YtpndglghpojjkaaGreat
namespace Go.Proofs.YtpndglghpojjkaaGreat
open Go.RowKit Go.Maps Go.ChangeMaps Go.MapKept Go.WideMaps
def heldR (v:Value):Option (DataW Value×List MemPlace):=some (.held v,[])
theorem Tryz.strKeyed:Keyed Tryz.prog 9:=string_keyed Tryz.underlying9
def keyS (s:ByteArray):Lit:= .string s.data.toList
theorem keyS_inj {a b:ByteArray} (h:keyS a=keyS b):a=b:=by
 unfold keyS at h;injection h with h;have:a.data=b.data:=Array.toList_inj.1 h;cases a;cases b;simp at this;rw[this]
def SaysS (D:DataW Value) (f:ByteArray→Option Value):Prop:=∀k,(match f k with
 |none=>Maps.has D (keyS k)=false
 |some v=>Maps.has D (keyS k)=true∧∀z,D.atKey (keyS k) z= .held v)
def SMap (w:World) (m N:Nat) (f:ByteArray→Option Value):Prop:=∃n D,n≤N∧w.ownsMap Tryz.prog 9 heldR m n D∧SaysS D f
section
variable {w w':World} {m N:Nat} {f:ByteArray→Option Value}
theorem SMap.loc (h:SMap w m N f) (hb:w'.heap[m]? =w.heap[m]?):SMap w' m N f:=by
 obtain⟨n,D,hn,⟨es,clock,h1,h2⟩,hs⟩:=h;exact⟨n,D,hn,⟨es,clock,hb.trans h1,h2⟩,hs⟩
theorem SMap.lt (h:SMap w m N f):m<w.heap.size:=by
 obtain⟨n,D,hn,h1,_⟩:=h;exact h1.lt
theorem SMap.more {N':Nat} (h:SMap w m N f) (hN:N≤N'):SMap w m N' f:=by
 obtain⟨n,D,hn,h1,h2⟩:=h;exact⟨n,D,by omega,h1,h2⟩
theorem SMap.made (w:World):SMap (w.alloc (.map #[] 0)) w.heap.size 0 (fun _=>none):=⟨0,.map [],by omega,World.ownsMap_made w _ _ _,fun _=>rfl⟩
theorem SaysS.put {D:DataW Value} (h:SaysS D f) (hD:IsMap D) (k:ByteArray) (v:Value):SaysS (D.put (keyS k) (.held v)) (fun j=>if j=k then some v else f j):=fun j=>by
 by_cases e:j=k
 ·subst e;simp only[if_true];exact⟨has_put_same hD (by trivial) _,fun z=>atKey_put_same hD (by trivial) _ _⟩
 ·simp only[if_neg e];have hne:keyS j≠keyS k:=fun h=>e (keyS_inj h);have:=h j
  cases hf:f j with
  |none=>rw[hf]at this;simp only at this⊢;rw[has_put_other hne];exact this
  |some u=>rw[hf]at this;simp only at this⊢;rw[has_put_other hne];exact⟨this.1,fun z=>by rw[atKey_put_other hne];exact this.2 z⟩
theorem SMap.store (h:SMap w m N f) {t e:TypeId} (ht:Tryz.prog.underlying t=some (.map 9 e)) {k:ByteArray} (hk:k.size≤maxLen) (hN:N≤1000000) (v:Value):
  ∃w',(Instr.mapUpdate t (.map (some m)) (.string k) v).run Tryz.prog w= .ok () w'∧SMap w' m (N+1) (fun j=>if j=k then some v else f j)∧w.grownBy w' (some m)∧w'.heap.size=w.heap.size:=by
 obtain⟨n,D,hn,ho,hs⟩:=h;obtain⟨w',hrun,ho',ht'⟩:=ho.store (t:=t) Tryz.strKeyed ht (by unfold maxLen;omega) (keyOf_string_mk Tryz.underlying9 hk) (val:=v) (d:= .held v) (ps:= []) rfl;refine⟨w',hrun,⟨_,_,by omega,ho',hs.put ho.isMap k v⟩,ht'.grown,?_⟩;obtain⟨_,_,_,_,_,rfl⟩:=ht';simp[setBlock]
end
theorem SMap.nocell {w:World} {m N:Nat} {f:ByteArray→Option Value} (h:SMap w m N f) (o:Nat):w.cell? ⟨m,o,none⟩=none:=by
 obtain⟨n,D,_,⟨es,clock,hb,_⟩,_⟩:=h;unfold World.cell?;simp[hb]
theorem SMap.noblk {w:World} {m N:Nat} {f:ByteArray→Option Value} (h:SMap w m N f) {b o:Nat} {v:Value} (hc:w.cell? ⟨b,o,none⟩=some v):b≠m:=by
 rintro rfl;rw[h.nocell]at hc;cases hc
end Go.Proofs.YtpndglghpojjkaaGreat
namespace Go.Proofs.YtpndglghpojjkaaGreat
open Go.RowKit Go.Deep
def kF (K:List UInt8→Nat):ByteArray→Option Value:=fun k=>if K k.data.toList=0 then none else some (.int .i64 (K k.data.toList))
def KMap (w:World) (m:Nat) (K:List UInt8→Nat):Prop:=SMap w m 300000 (kF K)
theorem KMap.keep {w w':World} {m:Nat} {K:List UInt8→Nat} (h:KMap w m K) (hb:w'.heap[m]? =w.heap[m]?):KMap w' m K:=h.loc hb
theorem KMap.below {w w':World} {m:Nat} {K:List UInt8→Nat} (h:KMap w m K) (hb:Below w.heap.size w w'):KMap w' m K:=h.loc (hb.block m h.lt)
theorem KMap.writes {w w':World} {m:Nat} {K:List UInt8→Nat} {M:List (Option Nat)} (h:KMap w m K) (hW:Writes M w w') (hM:some m∉M):KMap w' m K:=h.loc (hW.block m h.lt hM)
theorem beq_cast (n k:Nat):(((n:Nat):Int)==(k:Int))=(n==k):=by
 by_cases e:n=k
 ·simp[e]
 ·have:(n:Int)≠(k:Int):=by omega
  rw[beq_eq_false_iff_ne.2 this,beq_eq_false_iff_ne.2 e]
structure Snk (k:Nat) (first cap:Array Value) (M:List (Option Nat)) {σ:Type} (I:σ→World→Prop) (f:σ→List UInt8→σ):Prop where
 ent:∀args w,(callFunc k args).run Tryz.prog w= .ok (.enter k args) w
 call:∀s x w,x.length≤4096→I s w→Calls Tryz.prog k (first++ #[.string (strV x)]++cap) w fun e w'=>e= .returned (.tuple #[])∧I (f s x) w'∧Writes M w w'
 keep:∀s w w',I s w→Below w.heap.size w w'→I s w'
 low:∀s w g,I s w→some g∈M→g<w.heap.size
def NotOf (M:List (Option Nat)) (x:Nat):Prop:=some x∉M
theorem ExAt.wr {w w':World} {M:List (Option Nat)} {e:Ex} {v:Value} (h:ExAt w (NotOf M) e v) (hW:Writes M w w'):ExAt w' (NotOf M) e v:=h.keep fun x hx hS=>hW.block x hx hS
theorem CnAt.wr {w w':World} {M:List (Option Nat)} {e:Cn} {v:Value} (h:CnAt w (NotOf M) e v) (hW:Writes M w w'):CnAt w' (NotOf M) e v:=h.keep fun x hx hS=>hW.block x hx hS
structure Tst (m:Nat) (K:List UInt8→Nat) (r o:Nat) (b:Bool) (w:World):Prop where
 km:KMap w m K
 hr:Holds w r 86 #[.map (some m)]
 ho:Holds w o 4 #[.bool b]
 ro:r<o
 mo:m<o
theorem Tst.below {m r o:Nat} {K:List UInt8→Nat} {b:Bool} {w w':World} (h:Tst m K r o b w) (hb:Below w.heap.size w w'):Tst m K r o b w':=
 ⟨h.km.below hb,h.hr.below hb h.hr.lt,h.ho.below hb h.ho.lt,h.ro,h.mo⟩
theorem Tst.put {m r o:Nat} {K:List UInt8→Nat} {b:Bool} {w:World} (h:Tst m K r o b w) (b':Bool):Tst m K r o b' (w.setCell ⟨o,0,none⟩ (.bool b')):=by
 have hW:Writes [some o] w (w.setCell ⟨o,0,none⟩ (.bool b')):=Writes.store w (by simp) _;have h1:=h.ro;have h2:=h.mo;refine⟨h.km.writes hW (by simp;omega),hW.holds h.hr (by simp;omega),?_,h.ro,h.mo⟩;have:=h.ho.store 0 (.bool b');simpa using this
def Evr (_:Nat):Prop:=True
def ExsAt (w:World) (es:List Ex) (A:Option Addr):Prop:=∃vs,vs.length=es.length∧RowS w Evr A vs∧∀i (h:i<es.length),∃v,vs[i]? =some v∧ExAt w Evr es[i] v
theorem ExsAt.at_ {w:World} {es:List Ex} {A:Option Addr} (h:ExsAt w es A) {k:Nat} (hk:k<es.length):∃b off v,A=some ⟨b,off,none⟩∧b<w.heap.size∧w.cell? ⟨b,off+k,none⟩=some v∧ExAt w Evr es[k] v:=by
 obtain⟨vs,hl,hr,hi⟩:=h;obtain⟨v,hv,he⟩:=hi k hk
 have hne:vs≠[]:=fun e=>by rw[e]at hv;cases hv
 obtain⟨b,off,e,-,hc⟩:=hr hne;exact⟨b,off,v,e,hr.lt hne e,hc k v hv,he⟩
theorem ExAt.apart {w:World} {e:Ex} {v:Value} {o:Nat} (h:ExAt w Evr e v) (ho:w.heap.size≤o):ExAt w (NotOf [some o]) e v:=
 h.mono fun x hx _=>by unfold NotOf;simp;omega
theorem CnAt.apart {w:World} {e:Cn} {v:Value} {o:Nat} (h:CnAt w Evr e v) (ho:w.heap.size≤o):CnAt w (NotOf [some o]) e v:=
 h.mono fun x hx _=>by unfold NotOf;simp;omega
theorem AgCells.at_ {w:World} {S:Nat→Prop}:∀{l:List Ag} {vs:List Value},AgCells w S l vs→∀{k:Nat} (hk:k<l.length),∃ve,vs[k*3]? =some (.bool l[k].ptr)∧vs[k*3+1]? =some (.string (strV l[k].nm))∧vs[k*3+2]? =some ve∧ExAt w S l[k].e ve∧l[k].nm.length≤4096
 | [],_,_,k,hk=>absurd hk (by simp)
 |a::l,vs,h,k,hk=>by
  obtain⟨ve,vs',rfl,hn,h1,h2⟩:=h
  cases k with
  |zero=>exact⟨ve,rfl,rfl,rfl,h1,hn⟩
  |succ k=>
   obtain⟨ve',a1,a2,a3,a4,a5⟩:=AgCells.at_ h2 (k:=k) (by simpa using hk)
   have e:(k+1)*3=k*3+3:=by omega
   refine⟨ve',?_,?_,?_,a4,a5⟩
   ·rw[e];simpa using a1
   ·rw[e];simpa using a2
   ·rw[e];simpa using a3
theorem AgsAt.at_ {w:World} {l:List Ag} {A:Option Addr} {c:Nat} (h:AgsAt w Evr l (.slice A l.length c)) {k:Nat} (hk:k<l.length):
  ∃b off ve,A=some ⟨b,off,none⟩∧b<w.heap.size∧w.cell? ⟨b,off+k*3,none⟩=some (.bool l[k].ptr)∧w.cell? ⟨b,off+k*3+1,none⟩=some (.string (strV l[k].nm))∧w.cell? ⟨b,off+k*3+2,none⟩=some ve∧ExAt w Evr l[k].e ve∧l[k].nm.length≤4096:=by
 obtain⟨A',c',vs,e,-,-,hr,hc⟩:=h;injection e with e1 e2 e3;subst e1;obtain⟨ve,a1,a2,a3,a4,a5⟩:=hc.at_ hk
 have hne:vs≠[]:=fun e=>by rw[e]at a1;cases a1
 obtain⟨b,off,e,-,hcell⟩:=hr hne;exact⟨b,off,ve,e,hr.lt hne e,by have:=hcell _ _ a1;simpa using this,by have:=hcell _ _ a2;rw[Nat.add_assoc];exact this,by have:=hcell _ _ a3;rw[Nat.add_assoc];exact this,a4,a5⟩
theorem RowS.fresh (w:World) (t:TypeId) (vs:List Value):RowS (w.alloc (.cells vs.toArray t)) Evr (some ⟨w.heap.size,0,none⟩) vs:=fun hne=>by
 obtain⟨b,off,e,-,hc⟩:=Row.fresh w t vs hne;exact⟨b,off,e,trivial,hc⟩
theorem ExsAt.one {w:World} (t:TypeId) {e:Ex} {v:Value} (h:ExAt w Evr e v):ExsAt (w.alloc (.cells #[v] t)) [e] (some ⟨w.heap.size,0,none⟩):=
 ⟨[v],rfl,RowS.fresh w t [v],fun i hi=>by
  match i,hi with
  |0,_=>exact⟨v,rfl,h.below (below_new w _)⟩⟩
theorem ExsAt.two {w:World} (t:TypeId) {e f:Ex} {v u:Value} (h:ExAt w Evr e v) (h2:ExAt w Evr f u):ExsAt (w.alloc (.cells #[v,u] t)) [e,f] (some ⟨w.heap.size,0,none⟩):=
 ⟨[v,u],rfl,RowS.fresh w t [v,u],fun i hi=>by
  match i,hi with
  |0,_=>exact⟨v,rfl,h.below (below_new w _)⟩
  |1,_=>exact⟨u,rfl,h2.below (below_new w _)⟩⟩
structure Rsv (m:Nat) (K:List UInt8→Nat) (r:Nat) (w0 w:World):Prop where
 km:KMap w m K
 hr:Holds w r 86 #[.map (some m)]
 bl:Below w0.heap.size w0 w
theorem Rsv.below {m r:Nat} {K:List UInt8→Nat} {w0 w w':World} (h:Rsv m K r w0 w) (hb:Below w.heap.size w w'):Rsv m K r w0 w':=
 ⟨h.km.below hb,h.hr.below hb h.hr.lt,h.bl.trans (hb.mono h.bl.size)⟩
theorem Rsv.facts {m r:Nat} {K:List UInt8→Nat} {w0 w:World} (h:Rsv m K r w0 w):w.cell? ⟨r,0,none⟩=some (.map (some m))∧r<w.heap.size:=⟨h.hr.cell 0,h.hr.lt⟩
theorem Rsv.start {w:World} {m:Nat} {K:List UInt8→Nat} (h:KMap w m K):Rsv m K w.heap.size w (w.alloc (.cells #[.map (some m)] 86)):=
 ⟨h.below (below_new w _),Holds.new w _ _,below_new w _⟩
def stC (h:Hd) (pe pf pc:Option Addr) (Aa At Al:Option Addr) (na ca nt ct nl cl:Nat):Array Value:=
 #[.int .i64 h.k,.string (strV h.x),.string (strV h.y),.pointer pe,.pointer pf,.pointer pc,.slice Aa na ca,.slice At nt ct,.slice Al nl cl,.int .i64 h.at_]
structure Snd (m:Nat) (K:List UInt8→Nat) (h:Hd) (pe pf pc:Option Addr) (Aa:Option Addr) (na ca:Nat) (cs:Array Value) (r g:Nat) (w0 w:World):Prop where
 rs:Rsv m K r w0 w
 hs:Holds w g 63 cs
 hd:HdAt w Evr h (.pointer pe) (.pointer pf) (.pointer pc) (.slice Aa na ca)
section
variable {m:Nat} {K:List UInt8→Nat} {h:Hd} {pe pf pc:Option Addr} {Aa At Al:Option Addr} {na ca nt ct nl cl:Nat} {cs:Array Value} {r g:Nat} {w0 w w':World}
theorem HdAt.below {S:Nat→Prop} {ve vf vc va:Value} (H:HdAt w S h ve vf vc va) (hb:Below w.heap.size w w'):HdAt w' S h ve vf vc va:=H.keep fun x hx _=>hb.block x hx
theorem Snd.below (H:Snd m K h pe pf pc Aa na ca cs r g w0 w) (hb:Below w.heap.size w w'):Snd m K h pe pf pc Aa na ca cs r g w0 w':=
 ⟨H.rs.below hb,H.hs.below hb H.hs.lt,H.hd.below hb⟩
theorem Snd.facts (H:Snd m K h pe pf pc Aa na ca (stC h pe pf pc Aa At Al na ca nt ct nl cl) r g w0 w):w.cell? ⟨r,0,none⟩=some (.map (some m))∧r<w.heap.size∧g<w.heap.size∧w.cell? ⟨g,0,none⟩=some (.int .i64 h.k)∧w.cell? ⟨g,1,none⟩=some (.string (strV h.x))∧w.cell? ⟨g,2,none⟩=some (.string (strV h.y))∧
  w.cell? ⟨g,3,none⟩=some (.pointer pe)∧w.cell? ⟨g,4,none⟩=some (.pointer pf)∧w.cell? ⟨g,5,none⟩=some (.pointer pc)∧w.cell? ⟨g,6,none⟩=some (.slice Aa na ca):=
 ⟨H.rs.hr.cell 0,H.rs.hr.lt,H.hs.lt,H.hs.cell 0,H.hs.cell 1,H.hs.cell 2,H.hs.cell 3,H.hs.cell 4,H.hs.cell 5,H.hs.cell 6⟩
end
def Sl.dep:Sl→Nat
 | .nil=>0
 | .cons _ t e r=>max (max (t.dep+1) (e.dep+1)) r.dep
structure StSnk (k:Nat) (first cap:Array Value) (M:List (Option Nat)) {σ:Type} (I:σ→World→Prop) (d:σ→Hd→σ×Bool):Prop where
 ent:∀args w,(callFunc k args).run Tryz.prog w= .ok (.enter k args) w
 call:∀s h w pe pf pc Aa At Al na ca nt ct nl cl,HdAt w (NotOf M) h (.pointer pe) (.pointer pf) (.pointer pc) (.slice Aa na ca)→I s w→
  Calls Tryz.prog k (first++ #[.agg (stC h pe pf pc Aa At Al na ca nt ct nl cl)]++cap) w fun e w'=>e= .returned (.bool (d s h).2)∧I (d s h).1 w'∧Writes M w w'
 keep:∀s w w',I s w→Below w.heap.size w w'→I s w'
 low:∀s w g,I s w→some g∈M→g<w.heap.size
structure RestAt (w:World) (S:Nat→Prop) (A:Option Addr) (k:Nat) (l:Sl) (us:List Value):Prop where
 cs:SlCells w S l us
 row:us≠[]→∃b off,A=some ⟨b,off,none⟩∧S b∧∀j u,us[j]? =some u→w.cell? ⟨b,off+(k*10+j),none⟩=some u
theorem lt_of_cell {w:World} {b o:Nat} {v:Value} (h:w.cell? ⟨b,o,none⟩=some v):b<w.heap.size:=by
 rcases Nat.lt_or_ge b w.heap.size with h1|h1
 ·exact h1
 ·simp[World.cell?,Array.getElem?_eq_none h1]at h
theorem CnAt.vp {w:World} {S:Nat→Prop} {e:Cn} {v:Value} (h:CnAt w S e v):∃p,v= .pointer p:=by
 cases e with
 |nil=>exact⟨_,h⟩
 |mk=>obtain⟨g,_,_,_,_,e,_⟩:=h;exact⟨_,e⟩
theorem SlAt.wr {w w':World} {M:List (Option Nat)} {l:Sl} {v:Value} (h:SlAt w (NotOf M) l v) (hW:Writes M w w'):SlAt w' (NotOf M) l v:=h.keep fun x hx hS=>hW.block x hx hS
section
variable {w w':World} {S:Nat→Prop} {A:Option Addr} {k:Nat} {l t e r:Sl} {h:Hd} {us:List Value} {M:List (Option Nat)} {v:Value}
theorem RestAt.wr (H:RestAt w (NotOf M) A k l us) (hW:Writes M w w'):RestAt w' (NotOf M) A k l us:=by
 refine⟨H.cs.keep fun x hx hS=>hW.block x hx hS,fun hne=> ?_⟩;obtain⟨b,off,e,hS,hc⟩:=H.row hne;refine⟨b,off,e,hS,fun j u hu=> ?_⟩;have h1:=hc j u hu;have hb:b<w.heap.size:=lt_of_cell h1;rw[←h1];exact World.cell?_of_block (hW.block b hb hS)
theorem SlAt.rest (h:SlAt w S l v):∃A c us,v= .slice A l.len c∧l.len≤100000∧l.len≤c∧RestAt w S A 0 l us:=by
 obtain⟨A,c,us,e,h1,h2,hr,hc⟩:=h
 exact⟨A,c,us,e,h1,h2,hc,fun hne=>by
  obtain⟨b,off,e,hS,hc⟩:=hr hne
  exact⟨b,off,e,hS,fun j u hu=>by have:=hc j u hu;rw[Nat.zero_mul,Nat.zero_add];exact this⟩⟩
theorem RestAt.next (H:RestAt w S A k (.cons h t e r) us):∃b off pe pf pc Aa ca At ct Al cl us',A=some ⟨b,off,none⟩∧
  HdAt w S h (.pointer pe) (.pointer pf) (.pointer pc) (.slice Aa h.args.length ca)∧SlAt w S t (.slice At t.len ct)∧SlAt w S e (.slice Al e.len cl)∧
  (∀j (hj:j<10),w.cell? ⟨b,off+k*10+j,none⟩=some ((stC h pe pf pc Aa At Al h.args.length ca t.len ct e.len cl)[j]'hj))∧RestAt w S A (k+1) r us':=by
 obtain⟨hc,hr⟩:=H;obtain⟨ve,vf,vc,va,vt,vl,vs',rfl,hh,ht,he,hrest⟩:=hc;obtain⟨b,off,hA,hS,hcell⟩:=hr (by simp[Hd.cells]);obtain⟨pe,rfl⟩:=hh.e.vp;obtain⟨pf,rfl⟩:=hh.f.vp;obtain⟨pc,rfl⟩:=hh.c.vp;obtain⟨Aa,ca,vas,rfl,a1,a2,a3,a4⟩:=hh.a;obtain⟨At,ct,ts,rfl,t1,t2,t3,t4⟩:=ht;obtain⟨Al,cl,es,rfl,e1,e2,e3,e4⟩:=he;refine⟨b,off,pe,pf,pc,Aa,ca,At,ct,Al,cl,vs',hA,hh,⟨At,ct,ts,rfl,t1,t2,t3,t4⟩,⟨Al,cl,es,rfl,e1,e2,e3,e4⟩,fun j hj=> ?_,hrest,fun hne=>⟨b,off,hA,hS,fun j u hu=> ?_⟩⟩
 ·rw[Nat.add_assoc];refine hcell j _ ?_;rw[List.getElem?_append_left (by simp[Hd.cells];omega)];show(Hd.cells h _ _ _ _ _ _).toList[j]? =_;rw[Array.getElem?_toList];exact Array.getElem?_eq_getElem (xs:=stC h pe pf pc Aa At Al h.args.length ca t.len ct e.len cl) hj
 ·have:=hcell (10+j) u (by rw[List.getElem?_append_right (by simp[Hd.cells])];simpa[Hd.cells]using hu);rw[Nat.add_mul,Nat.one_mul,Nat.add_assoc];exact this
end
structure Vis (m:Option Nat) (M:List (Option Nat)) (gv:Nat) (w0 w:World):Prop where
 hv:Holds w gv 83 #[.map m]
 gm:NotOf M gv
 wr:Writes M w0 w
theorem Vis.facts {m:Option Nat} {M:List (Option Nat)} {gv:Nat} {w0 w:World} (h:Vis m M gv w0 w):w.cell? ⟨gv,0,none⟩=some (.map m)∧gv<w.heap.size:=⟨h.hv.cell 0,h.hv.lt⟩
structure RsI (m:Nat) (K:List UInt8→Nat) (r a:Nat) (n:Nat) (w:World):Prop where
 km:KMap w m K
 hr:Holds w r 86 #[.map (some m)]
 ha:Holds w a 3 #[.int .i64 n]
 ra:r<a
 ma:m<a
theorem RsI.below {m r a n:Nat} {K:List UInt8→Nat} {w w':World} (h:RsI m K r a n w) (hb:Below w.heap.size w w'):RsI m K r a n w':=
 ⟨h.km.below hb,h.hr.below hb h.hr.lt,h.ha.below hb h.ha.lt,h.ra,h.ma⟩
theorem RsI.put {m r a n:Nat} {K:List UInt8→Nat} {w:World} (h:RsI m K r a n w) (n':Nat):RsI m K r a n' (w.setCell ⟨a,0,none⟩ (.int .i64 n')):=by
 have hW:Writes [some a] w (w.setCell ⟨a,0,none⟩ (.int .i64 n')):=Writes.store w (by simp) _;have h1:=h.ra;have h2:=h.ma;refine⟨h.km.writes hW (by simp;omega),hW.holds h.hr (by simp;omega),?_,h.ra,h.ma⟩;have:=h.ha.store 0 (.int .i64 n');simpa using this
theorem RowS.add {w:World} {S:Nat→Prop} {a:Addr} {vs:List Value} (h:RowS w S (some a) vs) (j:Nat) (u:Value) (hu:vs[j]? =some u):w.cell? (a.add j)=some u:=by
 have hne:vs≠[]:=fun e=>by rw[e]at hu;cases hu
 obtain⟨b,off,e,-,hc⟩:=h hne;injection e with e;subst e;have:=hc j u hu
 cases j with
 |zero=>simpa[Addr.add]using this
 |succ j=>simpa[Addr.add]using this
theorem RowS.up {w w':World} {A:Option Addr} {vs:List Value} (h:RowS w Evr A vs) (hb:Below w.heap.size w w'):RowS w' Evr A vs:=h.keep fun x hx _=>hb.block x hx
theorem RowS.none_ {w:World} {S:Nat→Prop} {vs:List Value} (h:RowS w S none vs):vs= []:=by
 rcases vs with _| ⟨y,r⟩
 ·rfl
 ·obtain⟨_,_,e,_⟩:=h (by simp);cases e
theorem Tryz.clVar:(Tryz.prog.info? 79).map (fun i=>(i.zero,i.size,i.bytes))=some (some (.agg #[.string ⟨#[]⟩,.bool false]),2,24):=by kernel_rfl
theorem Tryz.clArg:(Tryz.prog.info? 168).map (fun i=>(i.zero,i.size,i.bytes))=some (some (.agg #[.bool false,.string ⟨#[]⟩,.pointer none]),3,32):=by kernel_rfl
theorem Tryz.clStmt:(Tryz.prog.info? 63).map (fun i=>(i.zero,i.size,i.bytes))=some (some (.agg #[.int .i64 0,.string ⟨#[]⟩,.string ⟨#[]⟩,.pointer none,.pointer none,.pointer none,.slice none 0 0,.slice none 0 0,.slice none 0 0,.int .i64 0]),10,144):=by kernel_rfl
theorem Tryz.clStr:(Tryz.prog.info? 9).map (fun i=>(i.zero,i.size,i.bytes))=some (some (.string ⟨#[]⟩),1,16):=by kernel_rfl
def ARow (w:World) (S:Nat→Prop) (g n:Nat) (f:Nat→Ag) (cs:Array Value):Prop:=
 Holds w g 168 cs∧∀j,j<n→∃ve,cs[j*3]? =some (.bool (f j).ptr)∧cs[j*3+1]? =some (.string (strV (f j).nm))∧cs[j*3+2]? =some ve∧ExAt w S (f j).e ve∧(f j).nm.length≤4096
section
variable {w w':World} {S:Nat→Prop} {g n:Nat} {f:Nat→Ag} {cs:Array Value}
theorem ARow.below (h:ARow w S g n f cs) (hb:Below w.heap.size w w'):ARow w' S g n f cs:=
 ⟨h.1.below hb h.1.lt,fun j hj=>by
  obtain⟨ve,a,b,c,d,e⟩:=h.2 j hj
  exact⟨ve,a,b,c,d.below hb,e⟩⟩
theorem ARow.put (h:ARow w S g n f cs) (hgS:¬S g) {k:Nat} (hk:k<n) {x:List UInt8} (hx:x.length≤4096):
  ARow (((w.setCell ⟨g,k*3,none⟩ (.bool true)).setCell ⟨g,k*3+1,none⟩ (.string (strV x))).setCell ⟨g,k*3+2,none⟩ (.pointer none)) S g n (fun j=>if j=k then⟨true,x,.nil⟩else f j)
   (((cs.setIfInBounds (k*3) (.bool true)).setIfInBounds (k*3+1) (.string (strV x))).setIfInBounds (k*3+2) (.pointer none)):=by
 have hW:Writes [some g] w (((w.setCell ⟨g,k*3,none⟩ (.bool true)).setCell ⟨g,k*3+1,none⟩ (.string (strV x))).setCell ⟨g,k*3+2,none⟩ (.pointer none)):=
  ((Writes.store w (by simp) _).trans (Writes.store _ (by simp) _)).trans (Writes.store _ (by simp) _)
 refine⟨((h.1.store _ _).store _ _).store _ _,fun j hj=> ?_⟩;obtain⟨ve,a,b,c,d,e⟩:=h.2 j hj;have hs:j*3+2<cs.size:=(Array.getElem?_eq_some_iff.1 c).1;by_cases hjk:j=k
 ·subst hjk;dsimp only;rw[if_pos rfl];refine⟨.pointer none,?_,?_,?_,rfl,hx⟩
  ·rw[Array.getElem?_setIfInBounds_ne (by omega),Array.getElem?_setIfInBounds_ne (by omega),Array.getElem?_setIfInBounds_self_of_lt (by omega)]
  ·rw[Array.getElem?_setIfInBounds_ne (by omega),Array.getElem?_setIfInBounds_self_of_lt (by simp;omega)]
  ·rw[Array.getElem?_setIfInBounds_self_of_lt (by simp;omega)]
 ·dsimp only;rw[if_neg hjk];refine⟨ve,?_,?_,?_,d.keep (fun x hx hS=>hW.block x hx (by simp;rintro rfl;exact hgS hS)),e⟩
  ·rw[Array.getElem?_setIfInBounds_ne (by omega),Array.getElem?_setIfInBounds_ne (by omega),Array.getElem?_setIfInBounds_ne (by omega)];exact a
  ·rw[Array.getElem?_setIfInBounds_ne (by omega),Array.getElem?_setIfInBounds_ne (by omega),Array.getElem?_setIfInBounds_ne (by omega)];exact b
  ·rw[Array.getElem?_setIfInBounds_ne (by omega),Array.getElem?_setIfInBounds_ne (by omega),Array.getElem?_setIfInBounds_ne (by omega)];exact c
theorem ARow.congr (h:ARow w S g n f cs) {f':Nat→Ag} (he:∀j,j<n→f' j=f j):ARow w S g n f' cs:=
 ⟨h.1,fun j hj=>by rw[he j hj];exact h.2 j hj⟩
theorem ARow.cells (h:ARow w S g n f cs):∀k,k≤n→∃vs,vs.length=k*3∧(∀j u,vs[j]? =some u→w.cell? ⟨g,0+j,none⟩=some u)∧AgCells w S ((List.range k).map f) vs
 |0,_=>⟨[],rfl,by simp,rfl⟩
 |k+1,hk=>by
  obtain⟨vs,hl,hc,ha⟩:=ARow.cells h k (by omega);obtain⟨ve,a,b,c,d,e⟩:=h.2 k (by omega);refine⟨vs++ [.bool (f k).ptr,.string (strV (f k).nm),ve],by simp;omega,fun j u hu=> ?_,?_⟩
  ·rw[Nat.zero_add,h.1.cell];rcases Nat.lt_or_ge j vs.length with h1|h1
   ·rw[List.getElem?_append_left h1]at hu;have:=hc j u hu;rw[Nat.zero_add,h.1.cell]at this;exact this
   ·rw[List.getElem?_append_right h1,hl]at hu
    have h2:j-k*3<3:=by have:=(List.getElem?_eq_some_iff.1 hu).1;simpa using this
    match hj:j-k*3,h2 with
    |0,_=>rw[hj]at hu;simp at hu;rw[show j=k*3 by omega,a,hu]
    |1,_=>rw[hj]at hu;simp at hu;rw[show j=k*3+1 by omega,b,hu]
    |2,_=>rw[hj]at hu;simp at hu;rw[show j=k*3+2 by omega,c,hu]
  ·rw[List.range_succ,List.map_append];exact AgCells.snoc ha e d
theorem ARow.ags (h:ARow w S g n f cs) {l:List Ag} (hl:l.length=n) (hf:∀j (hj:j<l.length),f j=l[j]) (hn:n≤100000) {c:Nat} (hc:n≤c):AgsAt w (fun x=>S x∨x=g) l (.slice (some ⟨g,0,none⟩) n c):=by
 obtain⟨vs,h1,h2,h3⟩:=h.cells n (Nat.le_refl _)
 have e:(List.range n).map f=l:=by
  apply List.ext_getElem
  ·simp[hl]
  ·intro i h4 h5;simp only[List.getElem_map,List.getElem_range];exact hf i h5
 rw[e]at h3;subst hl;exact⟨_,c,vs,rfl,hn,hc,fun _=>⟨g,0,rfl,.inr rfl,h2⟩,h3.mono fun _ _ h=> .inl h⟩
theorem ARow.of {base:Nat} {v:Value} {l:List Ag} {vs:List Value} {w0:World} (h:w.ownsRow base 168 3 v l.length vs) (hne:l≠[]) (hc:AgCells w0 S l vs) (hb:Below w0.heap.size w0 w):
  ∃g cap cs,v= .slice (some ⟨g,0,none⟩) l.length cap∧l.length≤cap∧base≤g∧ARow w (fun x=>x<w0.heap.size∧S x) g l.length (fun j=>l.getD j ⟨false,[],.nil⟩) cs:=by
 have hlen:vs.length=l.length*3:=h.1;rcases h.2 with⟨h1,h2⟩| ⟨g,cap,cur,h1,hg,hh,hcap,hmx,hsz,htk⟩
 ·exact absurd (List.eq_nil_of_length_eq_zero h2) hne
 ·refine⟨g,cap,cur,h1,hcap,hg,hh,fun j hj=> ?_⟩;obtain⟨ve,a,b,c,d,e⟩:=hc.at_ hj
  have hcur:∀i u,vs[i]? =some u→cur[i]? =some u:=fun i u hu=>by
   have hi:i<vs.length:=(List.getElem?_eq_some_iff.1 hu).1;rw[←htk,List.getElem?_take]at hu;split at hu
   ·rw[←Array.getElem?_toList];exact hu
   ·cases hu
  simp only[List.getD_eq_getElem?_getD,List.getElem?_eq_getElem hj,Option.getD_some];exact⟨ve,hcur _ _ a,hcur _ _ b,hcur _ _ c,(d.mono fun x hx hS=>⟨hx,hS⟩).below hb,e⟩
end
theorem AgCells.one {w:World} {S:Nat→Prop}:∀{l:List Ag} {vs:List Value},AgCells w S l vs→∀u∈vs,u.oneCell'=true
 | [],vs,h=>by obtain rfl:vs= []:=h;intro u hu;cases hu
 |a::l,vs,h=>by
  obtain⟨ve,vs',rfl,-,h1,h2⟩:=h;obtain⟨p,rfl⟩:=h1.vp;intro u hu;simp only[List.mem_cons]at hu;rcases hu with rfl|rfl|rfl|hu
  ·rfl
  ·rfl
  ·rfl
  ·exact AgCells.one h2 u hu
theorem Rsv.writes {m r g:Nat} {K:List UInt8→Nat} {w0 w w':World} (h:Rsv m K r w0 w) (hW:Writes [some g] w w') (hg:r<g) (hm:m<g) (hw:w0.heap.size≤r):Rsv m K r w0 w':=
 ⟨h.km.writes hW (by simp;omega),hW.holds h.hr (by simp;omega),h.bl.trans (hW.below h.bl.size (fun j hj=>by simp at hj;omega))⟩
def argK (K:List UInt8→Nat) (l:List Ag) (k j:Nat):Ag:=if j<k then argL K (l.getD j ⟨false,[],.nil⟩)else l.getD j ⟨false,[],.nil⟩
end Go.Proofs.YtpndglghpojjkaaGreat
