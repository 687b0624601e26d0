/-
  7 texts of the proof, in one file: no condition.
-/
import Derived.Test.YtpndglghpojjkaaGreatPea4
set_option maxRecDepth 1000000
set_option maxHeartbeats 8000000
namespace Go.Proofs.YtpndglghpojjkaaGreat
open Go.RowKit Go.Deep
def Sl.elems:Sl→List (Hd×Sl×Sl)
 | .nil=> []
 | .cons h t e r=>(h,t,e)::r.elems
def ofL:List (Hd×Sl×Sl)→Sl
 | []=> .nil
 |x::l=> .cons x.1 x.2.1 x.2.2 (ofL l)
theorem ofL_elems:∀l:Sl,ofL l.elems=l
 | .nil=>rfl
 | .cons h t e r=>by show Sl.cons h t e (ofL r.elems)=_;rw[ofL_elems r]
theorem elems_len:∀l:Sl,l.elems.length=l.len
 | .nil=>rfl
 | .cons h t e r=>by show r.elems.length+1=r.len+1;rw[elems_len r]
theorem ofL_snoc:∀(l:List (Hd×Sl×Sl)) (x:Hd×Sl×Sl),ofL (l++ [x])=(ofL l).snoc x.1 x.2.1 x.2.2
 | [],_=>rfl
 |y::l,x=>by show Sl.cons y.1 y.2.1 y.2.2 (ofL (l++ [x]))=Sl.cons y.1 y.2.1 y.2.2 ((ofL l).snoc _ _ _);rw[ofL_snoc l x]
def SEl (w:World) (S:Nat→Prop) (x:Hd×Sl×Sl) (cs:Array Value) (o:Nat):Prop:=
 ∃pe pf pc Aa ca At ct Al cl,(∀j,j<10→cs[o+j]? =(stC x.1 pe pf pc Aa At Al x.1.args.length ca x.2.1.len ct x.2.2.len cl)[j]?)∧
  HdAt w S x.1 (.pointer pe) (.pointer pf) (.pointer pc) (.slice Aa x.1.args.length ca)∧SlAt w S x.2.1 (.slice At x.2.1.len ct)∧SlAt w S x.2.2 (.slice Al x.2.2.len cl)
def SRow (w:World) (S:Nat→Prop) (g n:Nat) (f:Nat→Hd×Sl×Sl) (cs:Array Value):Prop:=
 Holds w g 63 cs∧∀j,j<n→SEl w S (f j) cs (j*10)
section
variable {w w':World} {S S':Nat→Prop} {g n:Nat} {f f':Nat→Hd×Sl×Sl} {cs cs':Array Value} {x:Hd×Sl×Sl} {o:Nat}
theorem SEl.keep (h:SEl w S x cs o) (hk:∀x,x<w.heap.size→S x→w'.heap[x]? =w.heap[x]?):SEl w' S x cs o:=by
 obtain⟨pe,pf,pc,Aa,ca,At,ct,Al,cl,a,b,c,d⟩:=h;exact⟨pe,pf,pc,Aa,ca,At,ct,Al,cl,a,b.keep hk,c.keep hk,d.keep hk⟩
theorem SEl.mono (h:SEl w S x cs o) (hk:∀x,x<w.heap.size→S x→S' x):SEl w S' x cs o:=by
 obtain⟨pe,pf,pc,Aa,ca,At,ct,Al,cl,a,b,c,d⟩:=h;exact⟨pe,pf,pc,Aa,ca,At,ct,Al,cl,a,b.mono hk,c.mono hk,d.mono hk⟩
theorem SEl.cells (h:SEl w S x cs o) (hc:∀j,j<10→cs'[o+j]? =cs[o+j]?):SEl w S x cs' o:=by
 obtain⟨pe,pf,pc,Aa,ca,At,ct,Al,cl,a,b,c,d⟩:=h;exact⟨pe,pf,pc,Aa,ca,At,ct,Al,cl,fun j hj=>(hc j hj).trans (a j hj),b,c,d⟩
theorem SRow.below (h:SRow w S g n f cs) (hb:Below w.heap.size w w'):SRow w' S g n f cs:=
 ⟨h.1.below hb h.1.lt,fun j hj=>(h.2 j hj).keep fun x hx _=>hb.block x hx⟩
theorem SRow.mono (h:SRow w S g n f cs) (hk:∀x,x<w.heap.size→S x→S' x):SRow w S' g n f cs:=⟨h.1,fun j hj=>(h.2 j hj).mono hk⟩
theorem SRow.congr (h:SRow w S g n f cs) (he:∀j,j<n→f' j=f j):SRow w S g n f' cs:=⟨h.1,fun j hj=>by rw[he j hj];exact h.2 j hj⟩
theorem SRow.put (h:SRow w S g n f cs) (hgS:¬S g) {k r:Nat} (hk:k<n) (hr:r<10) (u:Value) (x:Hd×Sl×Sl)
  (hx:∀w',(∀y,y<w.heap.size→S y→w'.heap[y]? =w.heap[y]?)→SEl w S (f k) cs (k*10)→k*10+9<cs.size→SEl w' S x (cs.setIfInBounds (k*10+r) u) (k*10)):
  SRow (w.setCell ⟨g,k*10+r,none⟩ u) S g n (fun j=>if j=k then x else f j) (cs.setIfInBounds (k*10+r) u):=by
 have hW:Writes [some g] w (w.setCell ⟨g,k*10+r,none⟩ u):=Writes.store w (by simp) _;have hkeep:∀y,y<w.heap.size→S y→(w.setCell ⟨g,k*10+r,none⟩ u).heap[y]? =w.heap[y]? :=fun y hy hS=>hW.block y hy (by simp;rintro rfl;exact hgS hS);refine⟨h.1.store _ _,fun j hj=> ?_⟩;by_cases hjk:j=k
 ·dsimp only;rw[if_pos hjk,hjk];refine hx _ hkeep (h.2 k hk) ?_;obtain⟨pe,pf,pc,Aa,ca,At,ct,Al,cl,a,-⟩:=h.2 k hk;exact(Array.getElem?_eq_some_iff.1 (a 9 (by omega))).1
 ·dsimp only;rw[if_neg hjk];refine((h.2 j hj).keep hkeep).cells fun i hi=> ?_;rw[Array.getElem?_setIfInBounds_ne (by omega)]
theorem SEl.facts (h:SEl w S x cs o) (hH:Holds w g 63 cs):∃pe Aa ca At ct Al cl,w.cell? ⟨g,o+0,none⟩=some (.int .i64 x.1.k)∧w.cell? ⟨g,o+3,none⟩=some (.pointer pe)∧w.cell? ⟨g,o+6,none⟩=some (.slice Aa x.1.args.length ca)∧
  w.cell? ⟨g,o+7,none⟩=some (.slice At x.2.1.len ct)∧w.cell? ⟨g,o+8,none⟩=some (.slice Al x.2.2.len cl)∧(∃v,w.cell? ⟨g,o+2,none⟩=some v)∧ExAt w S x.1.e (.pointer pe)∧AgsAt w S x.1.args (.slice Aa x.1.args.length ca)∧SlAt w S x.2.1 (.slice At x.2.1.len ct)∧SlAt w S x.2.2 (.slice Al x.2.2.len cl):=by
 obtain⟨pe,pf,pc,Aa,ca,At,ct,Al,cl,a,b,c,d⟩:=h;exact⟨pe,Aa,ca,At,ct,Al,cl,(hH.cell _).trans (a 0 (by omega)),(hH.cell _).trans (a 3 (by omega)),(hH.cell _).trans (a 6 (by omega)),(hH.cell _).trans (a 7 (by omega)),(hH.cell _).trans (a 8 (by omega)),⟨_,(hH.cell _).trans (a 2 (by omega))⟩,b.e,b.a,c,d⟩
theorem SRow.cells (h:SRow w S g n f cs):∀k,k≤n→∃vs,vs.length=k*10∧(∀j u,vs[j]? =some u→w.cell? ⟨g,0+j,none⟩=some u)∧SlCells w S (ofL ((List.range k).map f)) vs
 |0,_=>⟨[],rfl,by simp,rfl⟩
 |k+1,hk=>by
  obtain⟨vs,hl,hc,ha⟩:=SRow.cells h k (by omega);obtain⟨pe,pf,pc,Aa,ca,At,ct,Al,cl,a,b,c,d⟩:=h.2 k (by omega);refine⟨vs++(stC (f k).1 pe pf pc Aa At Al (f k).1.args.length ca (f k).2.1.len ct (f k).2.2.len cl).toList,by simp[stC];omega,fun j u hu=> ?_,?_⟩
  ·rcases Nat.lt_or_ge j vs.length with h1|h1
   ·rw[List.getElem?_append_left h1]at hu;exact hc j u hu
   ·rw[List.getElem?_append_right h1,hl]at hu
    have h2:j-k*10<10:=by have:=(List.getElem?_eq_some_iff.1 hu).1;simpa[stC]using this
    have:=a (j-k*10) h2;rw[show k*10+(j-k*10)=j by omega]at this;rw[Nat.zero_add,h.1.cell,this,←Array.getElem?_toList];exact hu
  ·rw[List.range_succ,List.map_append,List.map_singleton,ofL_snoc];exact SlCells.snoc ha b c d
theorem SRow.sl (h:SRow w S g n f cs) {l:Sl} (hl:l.len=n) (hf:∀j (hj:j<l.elems.length),f j=l.elems[j]) (hn:n≤100000) {c:Nat} (hc:n≤c):SlAt w (fun x=>S x∨x=g) l (.slice (some ⟨g,0,none⟩) n c):=by
 obtain⟨vs,h1,h2,h3⟩:=h.cells n (Nat.le_refl _)
 have e:(List.range n).map f=l.elems:=by
  apply List.ext_getElem
  ·simp[elems_len,hl]
  ·intro i h4 h5;simp only[List.getElem_map,List.getElem_range];exact hf i h5
 rw[e,ofL_elems]at h3;subst hl;exact⟨_,c,vs,rfl,hn,hc,fun _=>⟨g,0,rfl,.inr rfl,h2⟩,h3.mono fun _ _ h=> .inl h⟩
theorem SlCells.at_:∀{l:Sl} {vs:List Value},SlCells w S l vs→∀{k:Nat} (hk:k<l.elems.length),SEl w S l.elems[k] vs.toArray (k*10)
 | .nil,_,_,k,hk=>absurd hk (by simp[Sl.elems])
 | .cons h t e r,vs,hc,k,hk=>by
  obtain⟨ve,vf,vc,va,vt,vl,vs',rfl,hh,ht,he,hrest⟩:=hc
  cases k with
  |zero=>
   obtain⟨pe,rfl⟩:=hh.e.vp;obtain⟨pf,rfl⟩:=hh.f.vp;obtain⟨pc,rfl⟩:=hh.c.vp;obtain⟨Aa,ca,vas,rfl,a1,a2,a3,a4⟩:=hh.a;obtain⟨At,ct,ts,rfl,t1,t2,t3,t4⟩:=ht;obtain⟨Al,cl,es,rfl,e1,e2,e3,e4⟩:=he;refine⟨pe,pf,pc,Aa,ca,At,ct,Al,cl,fun j hj=> ?_,hh,⟨At,ct,ts,rfl,t1,t2,t3,t4⟩,⟨Al,cl,es,rfl,e1,e2,e3,e4⟩⟩;rw[List.getElem?_toArray,Nat.zero_mul,Nat.zero_add,List.getElem?_append_left (by simp[Hd.cells];omega),Array.getElem?_toList];rfl
  |succ k=>
   have ih:=SlCells.at_ hrest (k:=k) (by simpa[Sl.elems]using hk);obtain⟨pe,pf,pc,Aa,ca,At,ct,Al,cl,a,b,c,d⟩:=ih;refine⟨pe,pf,pc,Aa,ca,At,ct,Al,cl,fun j hj=> ?_,b,c,d⟩;have:=a j hj;refine Eq.trans ?_ this;rw[List.getElem?_toArray,List.getElem?_toArray,List.getElem?_append_right (by simp[Hd.cells];omega)];congr 1;simp[Hd.cells];omega
theorem SRow.of {base:Nat} {v:Value} {l:Sl} {vs:List Value} {w0:World} (h:w.ownsRow base 63 10 v l.len vs) (hne:l≠.nil) (hc:SlCells w0 S l vs) (hb:Below w0.heap.size w0 w):
  ∃g cap cs,v= .slice (some ⟨g,0,none⟩) l.len cap∧l.len≤cap∧base≤g∧SRow w (fun x=>x<w0.heap.size∧S x) g l.len (fun j=>l.elems.getD j (hd0 0,.nil,.nil)) cs:=by
 have hlen:vs.length=l.len*10:=h.1;rcases h.2 with⟨h1,h2⟩| ⟨g,cap,cur,h1,hg,hh,hcap,hmx,hsz,htk⟩
 ·cases l with
  |nil=>exact absurd rfl hne
  |cons h t e r=>simp[Sl.len]at h2
 ·refine⟨g,cap,cur,h1,hcap,hg,hh,fun j hj=> ?_⟩
  have hj2:j<l.elems.length:=by rw[elems_len];exact hj
  have hs:=hc.at_ hj2
  have hcur:∀i u,vs[i]? =some u→cur[i]? =some u:=fun i u hu=>by
   rw[←htk,List.getElem?_take]at hu;split at hu
   ·rw[←Array.getElem?_toList];exact hu
   ·cases hu
  simp only[List.getD_eq_getElem?_getD,List.getElem?_eq_getElem hj2,Option.getD_some];refine((hs.mono fun x hx hS=>⟨hx,hS⟩).keep fun x hx _=>hb.block x hx).cells fun i hi=> ?_
  have hi2:j*10+i<vs.length:=by omega
  have e1:vs.toArray[j*10+i]? =vs[j*10+i]? :=List.getElem?_toArray;rw[e1,List.getElem?_eq_getElem hi2];exact hcur _ _ (List.getElem?_eq_getElem hi2)
theorem SlCells.one:∀{l:Sl} {vs:List Value},SlCells w S l vs→∀u∈vs,u.oneCell'=true
 | .nil,vs,h=>by obtain rfl:vs= []:=h;intro u hu;cases hu
 | .cons h t e r,vs,hc=>by
  obtain⟨ve,vf,vc,va,vt,vl,vs',rfl,hh,ht,he,hrest⟩:=hc;obtain⟨pe,rfl⟩:=hh.e.vp;obtain⟨pf,rfl⟩:=hh.f.vp;obtain⟨pc,rfl⟩:=hh.c.vp;obtain⟨Aa,ca,vas,rfl,a1,a2,a3,a4⟩:=hh.a;obtain⟨At,ct,ts,rfl,t1,t2,t3,t4⟩:=ht;obtain⟨Al,cl,es,rfl,e1,e2,e3,e4⟩:=he;intro u hu;rcases List.mem_append.1 hu with hu|hu
  ·simp only[Hd.cells,List.mem_cons,List.not_mem_nil,or_false]at hu;rcases hu with rfl|rfl|rfl|rfl|rfl|rfl|rfl|rfl|rfl|rfl<;>rfl
  ·exact SlCells.one hrest u hu
end
theorem Sl.dep_cons (h:Hd) (t e r:Sl):(Sl.cons h t e r).dep=max (max (t.dep+1) (e.dep+1)) r.dep:=rfl
structure CReg (W:World) (Z:World→Prop) (l6 l9:Bool) (w:World):Prop where
 o:l9=true→l6=true
 a:l6=false→w=W
 c:l9=true→Z w
structure CRegN (W:World) (P:World→Prop) (l5:Bool) (w:World):Prop where
 a:l5=false→w=W
 c:l5=true→P w
structure LS (m:Nat) (K:List UInt8→Nat) (r g n:Nat) (S:Nat→Prop) (f:Nat→Hd×Sl×Sl) (w0 w:World):Prop where
 row:∃cs,SRow w S g n f cs
 rs:Rsv m K r w0 w
 gS:¬S g
 rg:r<g
 mg:m<g
 wr:w0.heap.size≤r
section
variable {m r g n:Nat} {K:List UInt8→Nat} {S:Nat→Prop} {f f':Nat→Hd×Sl×Sl} {w0 w w':World}
theorem LS.below (h:LS m K r g n S f w0 w) (hb:Below w.heap.size w w'):LS m K r g n S f w0 w':=by
 obtain⟨cs,hr⟩:=h.row;exact⟨⟨cs,hr.below hb⟩,h.rs.below hb,h.gS,h.rg,h.mg,h.wr⟩
theorem LS.congr (h:LS m K r g n S f w0 w) (he:∀j,j<n→f' j=f j):LS m K r g n S f' w0 w:=by
 obtain⟨cs,hr⟩:=h.row;exact⟨⟨cs,hr.congr he⟩,h.rs,h.gS,h.rg,h.mg,h.wr⟩
theorem LS.put (h:LS m K r g n S f w0 w) {k i:Nat} (hk:k<n) (hi:i<10) (u:Value) (x:Hd×Sl×Sl)
  (hx:∀cs (w':World),(∀y,y<w.heap.size→S y→w'.heap[y]? =w.heap[y]?)→SEl w S (f k) cs (k*10)→k*10+9<cs.size→SEl w' S x (cs.setIfInBounds (k*10+i) u) (k*10)):
  LS m K r g n S (fun j=>if j=k then x else f j) w0 (w.setCell ⟨g,k*10+i,none⟩ u):=by
 obtain⟨cs,hr⟩:=h.row;have hW:Writes [some g] w (w.setCell ⟨g,k*10+i,none⟩ u):=Writes.store w (by simp) _;exact⟨⟨_,hr.put h.gS hk hi u x (fun w'=>hx cs w')⟩,h.rs.writes hW h.rg h.mg h.wr,h.gS,h.rg,h.mg,h.wr⟩
theorem LS.twice {k:Nat} {x y:Hd×Sl×Sl} (h:LS m K r g n S (fun j=>if j=k then y else(fun j=>if j=k then x else f j) j) w0 w):LS m K r g n S (fun j=>if j=k then y else f j) w0 w:=h.congr fun j hj=>by
 by_cases e:j=k
 ·simp[e]
 ·simp[e]
theorem LS.facts (h:LS m K r g n S f w0 w) {k:Nat} (hk:k<n):(∀i,i<10→∃u,w.cell? ⟨g,k*10+i,none⟩=some u)∧g<w.heap.size∧∀i,w.frozen? ⟨g,i,none⟩=false:=by
 obtain⟨cs,hr⟩:=h.row;obtain⟨pe,pf,pc,Aa,ca,At,ct,Al,cl,a,-⟩:=hr.2 k hk;refine⟨fun i hi=>⟨_,(hr.1.cell _).trans ((a i hi).trans (Array.getElem?_eq_getElem (by simp[stC];exact hi)))⟩,hr.1.lt,fun i=>hr.1.frozen i⟩
theorem SEl.setL {x:Hd×Sl×Sl} {cs:Array Value} {o:Nat} (h:SEl w S x cs o) (hk:∀y,y<w.heap.size→S y→w'.heap[y]? =w.heap[y]?) (hs:o+9<cs.size) {l:Sl} {A:Option Addr} {c:Nat} (hA:SlAt w S l (.slice A l.len c)):SEl w' S (x.1,x.2.1,l) (cs.setIfInBounds (o+8) (.slice A l.len c)) o:=by
 obtain⟨pe,pf,pc,Aa,ca,At,ct,Al,cl,a,b,cc,d⟩:=h;refine⟨pe,pf,pc,Aa,ca,At,ct,A,c,fun j hj=> ?_,b.keep hk,cc.keep hk,hA.keep hk⟩;by_cases hj0:j=8
 ·subst hj0;rw[Array.getElem?_setIfInBounds_self_of_lt (by omega)];rfl
 ·rw[Array.getElem?_setIfInBounds_ne (by omega),a j hj]
  match j,hj,hj0 with
  |0,_,_|1,_,_|2,_,_|3,_,_|4,_,_|5,_,_|6,_,_|7,_,_|9,_,_=>rfl
end
def PS.Few (s:PS):Prop:=s.n≤201∧(s.e=0→s.n≤200)
def ReadsS (f:Nat) (m:Nat) (F:PC→PS→Sl×PS):Prop:=∀(C:PC) (L:PL) (w:World) (s:PS),PAt C L s w→m≤s.deep→s.Few→Calls Tryz.prog f #[.pointer (some ⟨L.g,0,none⟩)] w (SlPost C L (F C s) w)
theorem ReadsC.near {f m:Nat} {F:PC→PS→Cn×PS} (h:ReadsC f m F) {C:PC} {L:PL} {s:PS} {w0 w:World} {r:Cn×PS} (hM:Moved C L s w0 w) (hm:m≤s.deep) (hr:F C s=r):
  Calls Tryz.prog f #[.pointer (some ⟨L.g,0,none⟩)] w fun e w'=>∃p,e= .returned (.pointer p)∧Moved C L r.2 w0 w'∧CnAt w' (Ge w.heap.size) r.1 (.pointer p)∧Writes [some L.g] w w':=by
 subst hr;refine(h C L w s hM.at_ hm).mono ?_;rintro e w' ⟨p,rfl,h1,h2⟩;exact⟨p,rfl,hM.trans h1,h2,h1.wr⟩
theorem agsAt_slice {w:World} {S:Nat→Prop} {l:List Ag} {v:Value} (h:AgsAt w S l v):∃A c,v= .slice A l.length c:=by
 obtain⟨A,c,us,e,_⟩:=h;exact⟨A,c,e⟩
theorem isF_excl {C:PC} {t t':List UInt8} {s:PS} (h:isF C t s=true) (hne:t≠t'):isF C t' s=false:=by
 unfold isF at h⊢
 cases hx:C.tk[s.i]? with
 |none=>simp
 |some x=>
  rw[hx]at h;simp only[Bool.and_eq_true,bne_iff_ne,beq_iff_eq]at h;simp only[Bool.and_eq_false_iff,beq_eq_false_iff_ne];exact .inr (.inr (by rw[h.2.2];exact hne))
theorem cnAt_vp {w:World} {S:Nat→Prop} {e:Cn} {v:Value} (h:CnAt w S e v):∃p,v= .pointer p:=by
 cases e with
 |nil=>exact⟨_,h⟩
 |mk k a b p q nm=>
  obtain⟨g,va,vb,vp,vq,e,_⟩:=h;exact⟨_,e⟩
def zero10:Array Value:= #[.int .i64 0,.string ⟨#[]⟩,.string ⟨#[]⟩,.pointer none,.pointer none,.pointer none,.slice none 0 0,.slice none 0 0,.slice none 0 0,.int .i64 0]
theorem Moved.one {C:PC} {L:PL} {s:PS} {w0 w:World} (h:Moved C L s w0 w) (hn:s.n≤999):Moved C L s.one w0 (w.setCell ⟨L.g,6,none⟩ (.int .i64 ((s.n:Int)+1))):=by
 refine h.store 6 _ ?_ ⟨h.at_.ok.i,by simp only[PS.one];omega,h.at_.ok.at_,h.at_.ok.e,h.at_.ok.deep⟩;simp[PS.cells,PS.one]
theorem stmt_step (m:Nat) (sum:PC→PS→Ex×PS) (cond:PC→PS→Cn×PS) (block:PC→PS→Sl×PS) (hsum:Reads6 130 m sum) (hcond:ReadsC 131 m cond) (hblock:ReadsS 132 m block)
  (hs:∀C s,Stp C s (sum C s).2) (hc:∀C s,Stp C s (cond C s).2) (hb:∀C s,Stp C s (block C s).2) (C:PC) (Z:PL) (w:World) (s:PS) (hP:PAt C Z s w) (hm:m≤s.deep) (hn:s.n≤200):
  Calls Tryz.prog 81 #[.pointer (some ⟨Z.g,0,none⟩)] w (StPost C Z (stmtF C (sum C) (cond C) (block C) s) w):=by
 obtain⟨b1,b2,b3,b4,b5,b6,b7⟩:=hP.bounds;have hz0:=hP.lt;obtain⟨R,hR⟩:∃y,y=stmtF C (sum C) (cond C) (block C) s:=⟨_,rfl⟩;rw[←hR];obtain⟨w1,hw1⟩:∃ww,ww=w.alloc (.cells zero10 63):=⟨_,rfl⟩;obtain⟨wa,hwa⟩:∃ww,ww=w1.alloc (.cells ((hd0 s.n).cells (.pointer none) (.pointer none) (.pointer none) (.slice none 0 0) (.slice none 0 0) (.slice none 0 0)) 63):=⟨_,rfl⟩;obtain⟨gr,hgre⟩:∃x,x=w.heap.size:=⟨_,rfl⟩;obtain⟨gs,hgse⟩:∃x,x=w1.heap.size:=⟨_,rfl⟩
 have hz1:w1.heap.size=w.heap.size+1:=by rw[hw1];simp
 have hza:wa.heap.size=w1.heap.size+1:=by rw[hwa];simp
 have hb1:Below w.heap.size w w1:=by rw[hw1];exact below_new w _
 have hb2:Below w1.heap.size w1 wa:=by rw[hwa];exact below_new w1 _
 have hba:=zi (hb1.trans (hb2.mono hb1.size));have hgr:Hid (Holds wa gr 63 zero10):=zi (by rw[hgre];exact(show Holds w1 w.heap.size 63 zero10 by rw[hw1];exact Holds.new w _ _).below hb2 (by omega))
 have hVa:Hid (VS C Z gs s ((hd0 s.n).cells (.pointer none) (.pointer none) (.pointer none) (.slice none 0 0) (.slice none 0 0) (.slice none 0 0)) wa wa):=
  zi ⟨(hP.up hb1).up hb2,Writes.refl _ _,by rw[hgse,hwa];exact Holds.new w1 _ _,by omega,by omega⟩
 have hgr0:w.heap.size≤gr:=by omega
 have hgs0:w.heap.size≤gs:=by omega
 have hgrl:gr<wa.heap.size:=by omega
 have hne:gr≠gs:=by omega
 have hzg:Z.g<gr:=by omega
 have hltz:Z.g<wa.heap.size:=by omega
 have hlow:gs<wa.heap.size:=by omega
 have hn1:(hd0 s.n).at_≤201:=by simp only[hd0];omega
 obtain⟨kn,hkn⟩:∃y,y=knownF C s:=⟨_,rfl⟩;replace hkn:=zi hkn;obtain⟨a0,d0,d1,d2,d3,d4,d5,d6,dfz⟩:=hP.facts;clear hb1 hb2 hP;go_enter Tryz.func81,Tryz.ntmps81;go_upto_region 2 with(fail);rw[show((w.alloc (.cells #[.int .i64 0,.string ⟨#[]⟩,.string ⟨#[]⟩,.pointer none,.pointer none,.pointer none,.slice none 0 0,.slice none 0 0,.slice none 0 0,.int .i64 0] 63)).alloc (.cells #[.int .i64 0,.string ⟨#[]⟩,.string ⟨#[]⟩,.pointer none,.pointer none,.pointer none,.slice none 0 0,.slice none 0 0,.slice none 0 0,.int .i64 s.n] 63))=wa from by rw[hwa,hw1];rfl];rw[show w.heap.size+1=gs from by omega,show w.heap.size=gr from hgre.symm];clear hwa hw1 hgre hgse hz1 hza;go_cut [4] (fun kv wc=>kv= .bool kn∧Hid (Moved C Z s wa wc))
 case first=>
  clear a0 d0 d1 d2 d3 d4 d5 d6 dfz
  cases k0:namedF C s with
  |true=>
   have hN2:Hid (kn=true):=zi (by rw[hkn.out];unfold knownF;rw[k0];simp);replace k0:=zi k0;go_wp2_with fail;refine(named_from hVa.out.mv k0.out).mono ?_;rintro e v0 ⟨rfl,g0,-⟩;replace g0:=zi g0;go_wp2_with fail
   go_meet
   case rel=>exact⟨by rw[hN2.out],g0⟩
  |false=>
   cases k1:isF C [42] s with
   |true=>
    have hN2:Hid (kn=true):=zi (by rw[hkn.out];unfold knownF;rw[k0,k1];simp);replace k0:=zi k0;replace k1:=zi k1;go_wp2_with fail;refine(named_from hVa.out.mv k0.out).mono ?_;rintro e v0 ⟨rfl,g0,-⟩;replace g0:=zi g0;go_wp2_with fail;refine(is_from g0.out [42] k1.out).mono ?_;rintro e v1 ⟨rfl,g1,-⟩;replace g1:=zi g1;go_wp2_with fail
    go_meet
    case rel=>exact⟨by rw[hN2.out],g1⟩
   |false=>
    cases k2:isF C [114,101,116,117,114,110] s with
    |true=>
     have hN2:Hid (kn=true):=zi (by rw[hkn.out];unfold knownF;rw[k0,k1,k2];simp);replace k0:=zi k0;replace k1:=zi k1;replace k2:=zi k2;go_wp2_with fail;refine(named_from hVa.out.mv k0.out).mono ?_;rintro e v0 ⟨rfl,g0,-⟩;replace g0:=zi g0;go_wp2_with fail;refine(is_from g0.out [42] k1.out).mono ?_;rintro e v1 ⟨rfl,g1,-⟩;replace g1:=zi g1;go_wp2_with fail;refine(is_from g1.out [114,101,116,117,114,110] k2.out).mono ?_;rintro e v2 ⟨rfl,g2,-⟩;replace g2:=zi g2;go_wp2_with fail
     go_meet
     case rel=>exact⟨by rw[hN2.out],g2⟩
    |false=>
     cases k3:isF C [97,115,115,101,114,116] s with
     |true=>
      have hN2:Hid (kn=true):=zi (by rw[hkn.out];unfold knownF;rw[k0,k1,k2,k3];simp);replace k0:=zi k0;replace k1:=zi k1;replace k2:=zi k2;replace k3:=zi k3;go_wp2_with fail;refine(named_from hVa.out.mv k0.out).mono ?_;rintro e v0 ⟨rfl,g0,-⟩;replace g0:=zi g0;go_wp2_with fail;refine(is_from g0.out [42] k1.out).mono ?_;rintro e v1 ⟨rfl,g1,-⟩;replace g1:=zi g1;go_wp2_with fail;refine(is_from g1.out [114,101,116,117,114,110] k2.out).mono ?_;rintro e v2 ⟨rfl,g2,-⟩;replace g2:=zi g2;go_wp2_with fail;refine(is_from g2.out [97,115,115,101,114,116] k3.out).mono ?_;rintro e v3 ⟨rfl,g3,-⟩;replace g3:=zi g3;go_wp2_with fail
      go_meet
      case rel=>exact⟨by rw[hN2.out],g3⟩
     |false=>
      cases k4:isF C [105,102] s with
      |true=>
       have hN2:Hid (kn=true):=zi (by rw[hkn.out];unfold knownF;rw[k0,k1,k2,k3,k4];simp);replace k0:=zi k0;replace k1:=zi k1;replace k2:=zi k2;replace k3:=zi k3;replace k4:=zi k4;go_wp2_with fail;refine(named_from hVa.out.mv k0.out).mono ?_;rintro e v0 ⟨rfl,g0,-⟩;replace g0:=zi g0;go_wp2_with fail;refine(is_from g0.out [42] k1.out).mono ?_;rintro e v1 ⟨rfl,g1,-⟩;replace g1:=zi g1;go_wp2_with fail;refine(is_from g1.out [114,101,116,117,114,110] k2.out).mono ?_;rintro e v2 ⟨rfl,g2,-⟩;replace g2:=zi g2;go_wp2_with fail;refine(is_from g2.out [97,115,115,101,114,116] k3.out).mono ?_;rintro e v3 ⟨rfl,g3,-⟩;replace g3:=zi g3;go_wp2_with fail;refine(is_from g3.out [105,102] k4.out).mono ?_;rintro e v4 ⟨rfl,g4,-⟩;replace g4:=zi g4;go_wp2_with fail
       go_meet
       case rel=>exact⟨by rw[hN2.out],g4⟩
      |false=>
       cases k5:isF C [119,104,105,108,101] s with
       |true=>
        have hN2:Hid (kn=true):=zi (by rw[hkn.out];unfold knownF;rw[k0,k1,k2,k3,k4,k5];simp);replace k0:=zi k0;replace k1:=zi k1;replace k2:=zi k2;replace k3:=zi k3;replace k4:=zi k4;replace k5:=zi k5;go_wp2_with fail;refine(named_from hVa.out.mv k0.out).mono ?_;rintro e v0 ⟨rfl,g0,-⟩;replace g0:=zi g0;go_wp2_with fail;refine(is_from g0.out [42] k1.out).mono ?_;rintro e v1 ⟨rfl,g1,-⟩;replace g1:=zi g1;go_wp2_with fail;refine(is_from g1.out [114,101,116,117,114,110] k2.out).mono ?_;rintro e v2 ⟨rfl,g2,-⟩;replace g2:=zi g2;go_wp2_with fail;refine(is_from g2.out [97,115,115,101,114,116] k3.out).mono ?_;rintro e v3 ⟨rfl,g3,-⟩;replace g3:=zi g3;go_wp2_with fail;refine(is_from g3.out [105,102] k4.out).mono ?_;rintro e v4 ⟨rfl,g4,-⟩;replace g4:=zi g4;go_wp2_with fail;refine(is_from g4.out [119,104,105,108,101] k5.out).mono ?_;rintro e v5 ⟨rfl,g5,-⟩;replace g5:=zi g5;go_wp2_with fail
        go_meet
        case rel=>exact⟨by rw[hN2.out],g5⟩
       |false=>
        have hN2:Hid (kn=false):=zi (by rw[hkn.out];unfold knownF;rw[k0,k1,k2,k3,k4,k5];rfl);replace k0:=zi k0;replace k1:=zi k1;replace k2:=zi k2;replace k3:=zi k3;replace k4:=zi k4;replace k5:=zi k5;go_wp2_with fail;refine(named_from hVa.out.mv k0.out).mono ?_;rintro e v0 ⟨rfl,g0,-⟩;replace g0:=zi g0;go_wp2_with fail;refine(is_from g0.out [42] k1.out).mono ?_;rintro e v1 ⟨rfl,g1,-⟩;replace g1:=zi g1;go_wp2_with fail;refine(is_from g1.out [114,101,116,117,114,110] k2.out).mono ?_;rintro e v2 ⟨rfl,g2,-⟩;replace g2:=zi g2;go_wp2_with fail;refine(is_from g2.out [97,115,115,101,114,116] k3.out).mono ?_;rintro e v3 ⟨rfl,g3,-⟩;replace g3:=zi g3;go_wp2_with fail;refine(is_from g3.out [105,102] k4.out).mono ?_;rintro e v4 ⟨rfl,g4,-⟩;replace g4:=zi g4;go_wp2_with fail;refine(is_from g4.out [119,104,105,108,101] k5.out).mono ?_;rintro e v5 ⟨rfl,g5,-⟩;replace g5:=zi g5;go_wp2_with fail
        go_meet
        case rel=>exact⟨by rw[hN2.out],g5⟩
 case rest=>
  obtain⟨rfl,hg⟩:=hcut;have hV0:=hVa.out.call hg.out;obtain⟨w0,hw0⟩:∃ww,ww=wc:=⟨_,rfl⟩;rw[←hw0]at hV0⊢;clear hg hw0 a0 d0 d1 d2 d3 d4 d5 d6 dfz;obtain⟨a0,d0,d1,d2,d3,d4,d5,d6,dfz⟩:=hV0.mv.facts;replace hV0:=zi hV0;by_cases hfail:kn=true∧200≤s.n
  case pos=>
   have hkv:=hfail.1
   have h200:(200:Int)≤(s.n:Int):=by have:=hfail.2;omega
   have hF:Hid (R=((hd0 s.n,.nil,.nil),failF C 53 s)):=zi (by rw[hR];unfold stmtF;rw[if_pos (by rw[←hkn.out,hkv,decide_eq_true hfail.2];rfl)]);subst hkv;clear hfail hR;go_wp2_with fail;refine(fail_from hV0.out.mv 53 (by decide) rfl).mono ?_;rintro e w2 ⟨rfl,q,-⟩;have V2:=zi (hV0.out.call q);clear q a0 d0 d1 d2 d3 d4 d5 d6 dfz;obtain⟨fl,fz⟩:=V2.out.facts;have f0:w2.cell? ⟨gs,0,none⟩=some (.int .i64 0):=V2.out.fact 0 rfl;have f1:w2.cell? ⟨gs,1,none⟩=some (.string ⟨#[]⟩):=V2.out.fact 1 rfl;have f2:w2.cell? ⟨gs,2,none⟩=some (.string ⟨#[]⟩):=V2.out.fact 2 rfl;have f3:w2.cell? ⟨gs,3,none⟩=some (.pointer none):=V2.out.fact 3 rfl;have f4:w2.cell? ⟨gs,4,none⟩=some (.pointer none):=V2.out.fact 4 rfl;have f5:w2.cell? ⟨gs,5,none⟩=some (.pointer none):=V2.out.fact 5 rfl;have f6:w2.cell? ⟨gs,6,none⟩=some (.slice none 0 0):=V2.out.fact 6 rfl;have f7:w2.cell? ⟨gs,7,none⟩=some (.slice none 0 0):=V2.out.fact 7 rfl;have f8:w2.cell? ⟨gs,8,none⟩=some (.slice none 0 0):=V2.out.fact 8 rfl;have f9:w2.cell? ⟨gs,9,none⟩=some (.int .i64 s.n):=V2.out.fact 9 rfl
   have hgr1:Holds w2 gr 63 zero10:=V2.out.wr.holds hgr.out (by simp;omega);have g0:=hgr1.lt;have gz:=fun i=>hgr1.frozen i;have k0:w2.cell? ⟨gr,0,none⟩=some (.int .i64 0):=hgr1.cell 0;have k1:w2.cell? ⟨gr,1,none⟩=some (.string ⟨#[]⟩):=hgr1.cell 1;have k2:w2.cell? ⟨gr,2,none⟩=some (.string ⟨#[]⟩):=hgr1.cell 2;have k3:w2.cell? ⟨gr,3,none⟩=some (.pointer none):=hgr1.cell 3;have k4:w2.cell? ⟨gr,4,none⟩=some (.pointer none):=hgr1.cell 4;have k5:w2.cell? ⟨gr,5,none⟩=some (.pointer none):=hgr1.cell 5;have k6:w2.cell? ⟨gr,6,none⟩=some (.slice none 0 0):=hgr1.cell 6;have k7:w2.cell? ⟨gr,7,none⟩=some (.slice none 0 0):=hgr1.cell 7;have k8:w2.cell? ⟨gr,8,none⟩=some (.slice none 0 0):=hgr1.cell 8;have k9:w2.cell? ⟨gr,9,none⟩=some (.int .i64 0):=hgr1.cell 9;replace hgr1:=zi hgr1;go_wp2_with fail;refine ret_cellS rfl rfl rfl (put10_holds hgr1.out _ _ _ _ _ _ _ _ _ _) Tryz.underlying63 Tryz.sStmt ?_;rw[hF.out]
   exact StPost.of (h:=hd0 s.n) V2.out ⟨ExAt.nil_ _ _,ExAt.nil_ _ _,CnAt.nil_ _ _,AgsAt.nil_ _ _,Nat.zero_le 4096,Nat.zero_le 4096,(by decide:0≤12),hn1⟩ (SlAt.nil_ _ _) (SlAt.nil_ _ _) hz0 hba.out hgr0 hgs0 hgrl (put10_writes _ _ _ _ _ _ _ _ _ _ _ _)
  case neg=>
   have hkf:(knownF C s&&decide (200≤s.n))=false:=by
    rw[←hkn.out]
    cases hkv:kn with
    |false=>rfl
    |true=>rw[decide_eq_false (fun h=>hfail ⟨hkv,h⟩)];rfl
   go_upto_region 3 with(fail);go_cut [4,40] (fun kv bv wd=>kv= .bool kn∧bv= .bool false∧w0=wd)
   case first=>
    cases hkv:kn with
    |false=>
     replace hkf:=zi hkf;replace hkv:=zi hkv;go_wp2_with fail
     go_meet
     case rel=>exact⟨by rw[hkv.out],rfl,rfl⟩
    |true=>
     have h200:¬(200:Int)≤(s.n:Int):=by have:¬200≤s.n:=fun h=>hfail ⟨hkv,h⟩;omega
     replace hkf:=zi hkf;replace hkv:=zi hkv;go_wp2_with fail
     go_meet
     case rel=>exact⟨by rw[hkv.out],rfl,rfl⟩
   case rest=>
    obtain⟨rfl,rfl,rfl⟩:=hcut;clear hfail;have hw9:IntKind.i64.wrap ((s.n:Int)+1)=(s.n:Int)+1:=IntWalk.i64_in _ (by omega);have q:=hV0.out.mv.one (by omega);obtain⟨wN,hwN⟩:∃ww,ww=w0.setCell ⟨Z.g,6,none⟩ (.int .i64 ((s.n:Int)+1)):=⟨_,rfl⟩;rw[←hwN]at q;have VN:Hid (VS C Z gs s.one #[.int .i64 0,.string ⟨#[]⟩,.string ⟨#[]⟩,.pointer none,.pointer none,.pointer none,.slice none 0 0,.slice none 0 0,.slice none 0 0,.int .i64 s.n] wa wN):=zi (hV0.out.call q);clear q;replace hkf:=zi hkf;replace hR:=zi hR;go_wp2_with fail;rw[←hwN];clear hwN a0 d0 d1 d2 d3 d4 d5 d6 dfz hw9 hV0
    cases h1:isF C [114,101,116,117,114,110] s.one with
    |true=>
     obtain⟨r,hr⟩:∃yy,yy=sum C s.one.next:=⟨_,rfl⟩;obtain⟨s5,hs5⟩:∃yy,yy=wantF C [59] r.2:=⟨_,rfl⟩;have hF:Hid (R=(({hd0 s.n with k:=9,e:=r.1},.nil,.nil),s5)):=zi (by rw[hR.out,hs5,hr];unfold stmtF plainF;simp only[hkf.out,isF_excl h1 (t':= [105,102]) (by decide),isF_excl h1 (t':= [119,104,105,108,101]) (by decide),h1];rfl);replace hr:=zi hr;replace hs5:=zi hs5;replace h1:=zi h1;refine(take_yes VN.out.mv [114,101,116,117,114,110] h1.out rfl).mono ?_;rintro e w1 ⟨rfl,q,hW⟩;have V1:=zi (VN.out.call q);clear q hW;go_wp2_with fail;refine(hsum.near V1.out.mv hm hr.out.symm).mono ?_;rintro e w2 ⟨pr,rfl,q,hE,hW⟩;have V2:=zi (V1.out.call q);have Tr:=zi (hE.ge (B:=wa.heap.size) V1.out.wr.size);clear q hW hE;obtain⟨fl,fz⟩:=V2.out.facts;have f0:w2.cell? ⟨gs,0,none⟩=some (.int .i64 0):=V2.out.fact 0 rfl;have f3:w2.cell? ⟨gs,3,none⟩=some (.pointer none):=V2.out.fact 3 rfl
     have V3:VS C Z gs (r.2) #[.int .i64 9,.string ⟨#[]⟩,.string ⟨#[]⟩,.pointer pr,.pointer none,.pointer none,.slice none 0 0,.slice none 0 0,.slice none 0 0,.int .i64 s.n] wa ((w2.setCell ⟨gs,0,none⟩ (.int .i64 9)).setCell ⟨gs,3,none⟩ (.pointer pr)):=((V2.out.store 0 (.int .i64 9)).store 3 (.pointer pr));obtain⟨w3,hw3⟩:∃ww,ww=((w2.setCell ⟨gs,0,none⟩ (.int .i64 9)).setCell ⟨gs,3,none⟩ (.pointer pr)):=⟨_,rfl⟩;rw[←hw3]at V3;replace V3:=zi V3;have Tr_3:=((Tr.out.st hlow 0 (.int .i64 9)).st hlow 3 (.pointer pr));rw[←hw3]at Tr_3;replace Tr_3:=zi Tr_3;go_wp2_with fail;rw[←hw3];clear hw3 fl fz f0 f3;refine(want_from V3.out.mv [59] hs5.out.symm).mono ?_;rintro e w4 ⟨rfl,q,hW⟩;have V4:=zi (V3.out.call q);have Tr_4:=zi (Tr_3.out.pw hW hltz);clear q hW;obtain⟨fl,fz⟩:=V4.out.facts;have f0:w4.cell? ⟨gs,0,none⟩=some (.int .i64 9):=V4.out.fact 0 rfl;have f1:w4.cell? ⟨gs,1,none⟩=some (.string ⟨#[]⟩):=V4.out.fact 1 rfl;have f2:w4.cell? ⟨gs,2,none⟩=some (.string ⟨#[]⟩):=V4.out.fact 2 rfl;have f3:w4.cell? ⟨gs,3,none⟩=some (.pointer pr):=V4.out.fact 3 rfl
     have f4:w4.cell? ⟨gs,4,none⟩=some (.pointer none):=V4.out.fact 4 rfl;have f5:w4.cell? ⟨gs,5,none⟩=some (.pointer none):=V4.out.fact 5 rfl;have f6:w4.cell? ⟨gs,6,none⟩=some (.slice none 0 0):=V4.out.fact 6 rfl;have f7:w4.cell? ⟨gs,7,none⟩=some (.slice none 0 0):=V4.out.fact 7 rfl;have f8:w4.cell? ⟨gs,8,none⟩=some (.slice none 0 0):=V4.out.fact 8 rfl;have f9:w4.cell? ⟨gs,9,none⟩=some (.int .i64 s.n):=V4.out.fact 9 rfl;have hgr1:Holds w4 gr 63 zero10:=V4.out.wr.holds hgr.out (by simp;omega);have g0:=hgr1.lt;have gz:=fun i=>hgr1.frozen i;have k0:w4.cell? ⟨gr,0,none⟩=some (.int .i64 0):=hgr1.cell 0;have k1:w4.cell? ⟨gr,1,none⟩=some (.string ⟨#[]⟩):=hgr1.cell 1;have k2:w4.cell? ⟨gr,2,none⟩=some (.string ⟨#[]⟩):=hgr1.cell 2;have k3:w4.cell? ⟨gr,3,none⟩=some (.pointer none):=hgr1.cell 3;have k4:w4.cell? ⟨gr,4,none⟩=some (.pointer none):=hgr1.cell 4;have k5:w4.cell? ⟨gr,5,none⟩=some (.pointer none):=hgr1.cell 5;have k6:w4.cell? ⟨gr,6,none⟩=some (.slice none 0 0):=hgr1.cell 6;have k7:w4.cell? ⟨gr,7,none⟩=some (.slice none 0 0):=hgr1.cell 7
     have k8:w4.cell? ⟨gr,8,none⟩=some (.slice none 0 0):=hgr1.cell 8;have k9:w4.cell? ⟨gr,9,none⟩=some (.int .i64 0):=hgr1.cell 9;replace hgr1:=zi hgr1;go_wp2_with fail;refine ret_cellS rfl rfl rfl (put10_holds hgr1.out _ _ _ _ _ _ _ _ _ _) Tryz.underlying63 Tryz.sStmt ?_;rw[hF.out];exact StPost.of (h:={hd0 s.n with k:=9,e:=r.1}) V4.out ⟨Tr_4.out,ExAt.nil_ _ _,CnAt.nil_ _ _,AgsAt.nil_ _ _,Nat.zero_le 4096,Nat.zero_le 4096,(by decide:9≤12),hn1⟩ (SlAt.nil_ _ _) (SlAt.nil_ _ _) hz0 hba.out hgr0 hgs0 hgrl (put10_writes _ _ _ _ _ _ _ _ _ _ _ _)
    |false=>
     cases h2:isF C [97,115,115,101,114,116] s.one with
     |true=>
      obtain⟨s2,hs2⟩:∃yy,yy=wantF C [40] s.one.next:=⟨_,rfl⟩;obtain⟨r,hr⟩:∃yy,yy=cond C s2:=⟨_,rfl⟩;obtain⟨s4,hs4⟩:∃yy,yy=wantF C [41] r.2:=⟨_,rfl⟩;obtain⟨s5,hs5⟩:∃yy,yy=wantF C [59] s4:=⟨_,rfl⟩;have hF:Hid (R=(({hd0 s.n with k:=12,c:=r.1},.nil,.nil),s5)):=zi (by rw[hR.out,hs5,hs4,hr,hs2];unfold stmtF plainF;simp only[hkf.out,isF_excl h2 (t':= [105,102]) (by decide),isF_excl h2 (t':= [119,104,105,108,101]) (by decide),h1,h2];rfl)
      have hm2:m≤s2.deep:=by rw[hs2,(Stp.want _ _).dp];exact hm
      replace hs2:=zi hs2;replace hr:=zi hr;replace hs4:=zi hs4;replace hs5:=zi hs5;replace h1:=zi h1;replace h2:=zi h2;refine(take_no VN.out.mv [114,101,116,117,114,110] h1.out).mono ?_;rintro e w1 ⟨rfl,q,hW⟩;have V1:=zi (VN.out.call q);clear q hW;go_wp2_with fail;refine(take_yes V1.out.mv [97,115,115,101,114,116] h2.out rfl).mono ?_;rintro e w2 ⟨rfl,q,hW⟩;have V2:=zi (V1.out.call q);clear q hW;go_wp2_with fail;refine(want_from V2.out.mv [40] hs2.out.symm).mono ?_;rintro e w3 ⟨rfl,q,hW⟩;have V3:=zi (V2.out.call q);clear q hW;go_wp2_with fail;refine(hcond.near V3.out.mv hm2 hr.out.symm).mono ?_;rintro e w4 ⟨pr,rfl,q,hE,hW⟩;have V4:=zi (V3.out.call q);have Tr:=zi (hE.ge (B:=wa.heap.size) V3.out.wr.size);clear q hW hE;obtain⟨fl,fz⟩:=V4.out.facts;have f0:w4.cell? ⟨gs,0,none⟩=some (.int .i64 0):=V4.out.fact 0 rfl;have f5:w4.cell? ⟨gs,5,none⟩=some (.pointer none):=V4.out.fact 5 rfl
      have V5:VS C Z gs (r.2) #[.int .i64 12,.string ⟨#[]⟩,.string ⟨#[]⟩,.pointer none,.pointer none,.pointer pr,.slice none 0 0,.slice none 0 0,.slice none 0 0,.int .i64 s.n] wa ((w4.setCell ⟨gs,0,none⟩ (.int .i64 12)).setCell ⟨gs,5,none⟩ (.pointer pr)):=((V4.out.store 0 (.int .i64 12)).store 5 (.pointer pr));obtain⟨w5,hw5⟩:∃ww,ww=((w4.setCell ⟨gs,0,none⟩ (.int .i64 12)).setCell ⟨gs,5,none⟩ (.pointer pr)):=⟨_,rfl⟩;rw[←hw5]at V5;replace V5:=zi V5;have Tr_5:=((Tr.out.st hlow 0 (.int .i64 12)).st hlow 5 (.pointer pr));rw[←hw5]at Tr_5;replace Tr_5:=zi Tr_5;go_wp2_with fail;rw[←hw5];clear hw5 fl fz f0 f5;refine(want_from V5.out.mv [41] hs4.out.symm).mono ?_;rintro e w6 ⟨rfl,q,hW⟩;have V6:=zi (V5.out.call q);have Tr_6:=zi (Tr_5.out.pw hW hltz);clear q hW;go_wp2_with fail;refine(want_from V6.out.mv [59] hs5.out.symm).mono ?_;rintro e w7 ⟨rfl,q,hW⟩;have V7:=zi (V6.out.call q);have Tr_7:=zi (Tr_6.out.pw hW hltz);clear q hW;obtain⟨fl,fz⟩:=V7.out.facts;have f0:w7.cell? ⟨gs,0,none⟩=some (.int .i64 12):=V7.out.fact 0 rfl;have f1:w7.cell? ⟨gs,1,none⟩=some (.string ⟨#[]⟩):=V7.out.fact 1 rfl
      have f2:w7.cell? ⟨gs,2,none⟩=some (.string ⟨#[]⟩):=V7.out.fact 2 rfl;have f3:w7.cell? ⟨gs,3,none⟩=some (.pointer none):=V7.out.fact 3 rfl;have f4:w7.cell? ⟨gs,4,none⟩=some (.pointer none):=V7.out.fact 4 rfl;have f5:w7.cell? ⟨gs,5,none⟩=some (.pointer pr):=V7.out.fact 5 rfl;have f6:w7.cell? ⟨gs,6,none⟩=some (.slice none 0 0):=V7.out.fact 6 rfl;have f7:w7.cell? ⟨gs,7,none⟩=some (.slice none 0 0):=V7.out.fact 7 rfl;have f8:w7.cell? ⟨gs,8,none⟩=some (.slice none 0 0):=V7.out.fact 8 rfl;have f9:w7.cell? ⟨gs,9,none⟩=some (.int .i64 s.n):=V7.out.fact 9 rfl;have hgr1:Holds w7 gr 63 zero10:=V7.out.wr.holds hgr.out (by simp;omega);have g0:=hgr1.lt;have gz:=fun i=>hgr1.frozen i;have k0:w7.cell? ⟨gr,0,none⟩=some (.int .i64 0):=hgr1.cell 0;have k1:w7.cell? ⟨gr,1,none⟩=some (.string ⟨#[]⟩):=hgr1.cell 1;have k2:w7.cell? ⟨gr,2,none⟩=some (.string ⟨#[]⟩):=hgr1.cell 2;have k3:w7.cell? ⟨gr,3,none⟩=some (.pointer none):=hgr1.cell 3;have k4:w7.cell? ⟨gr,4,none⟩=some (.pointer none):=hgr1.cell 4;have k5:w7.cell? ⟨gr,5,none⟩=some (.pointer none):=hgr1.cell 5
      have k6:w7.cell? ⟨gr,6,none⟩=some (.slice none 0 0):=hgr1.cell 6;have k7:w7.cell? ⟨gr,7,none⟩=some (.slice none 0 0):=hgr1.cell 7;have k8:w7.cell? ⟨gr,8,none⟩=some (.slice none 0 0):=hgr1.cell 8;have k9:w7.cell? ⟨gr,9,none⟩=some (.int .i64 0):=hgr1.cell 9;replace hgr1:=zi hgr1;go_wp2_with fail;refine ret_cellS rfl rfl rfl (put10_holds hgr1.out _ _ _ _ _ _ _ _ _ _) Tryz.underlying63 Tryz.sStmt ?_;rw[hF.out];exact StPost.of (h:={hd0 s.n with k:=12,c:=r.1}) V7.out ⟨ExAt.nil_ _ _,ExAt.nil_ _ _,Tr_7.out,AgsAt.nil_ _ _,Nat.zero_le 4096,Nat.zero_le 4096,(by decide:12≤12),hn1⟩ (SlAt.nil_ _ _) (SlAt.nil_ _ _) hz0 hba.out hgr0 hgs0 hgrl (put10_writes _ _ _ _ _ _ _ _ _ _ _ _)
     |false=>
      cases hif:isF C [105,102] s.one with
      |true=>
       obtain⟨s2,hs2⟩:∃yy,yy=wantF C [40] s.one.next:=⟨_,rfl⟩;obtain⟨c,hc0⟩:∃yy,yy=cond C s2:=⟨_,rfl⟩;obtain⟨s3,hs3⟩:∃yy,yy=wantF C [41] c.2:=⟨_,rfl⟩;obtain⟨bt,hbt⟩:∃yy,yy=block C s3:=⟨_,rfl⟩
       have hkn2:¬200≤s.n:=fun h=>by have:=hkf.out;rw[decide_eq_true h,Bool.and_true]at this;unfold knownF at this;rw[show isF C [105,102] s=true from hif]at this;simp at this
       have hi:=isF_lt hif
       have hm2:m≤s2.deep:=by rw[hs2,(Stp.want _ _).dp];exact hm
       have hm3:m≤s3.deep:=by rw[hs3,(Stp.want _ _).dp,hc0,(hc C _).dp];exact hm2
       have hst3:Stp C s.one s3:=by rw[hs3,hc0,hs2];exact(((Stp.is_ hif).trans (Stp.want _ _)).trans (hc C _)).trans (Stp.want _ _)
       have hfew3:s3.Few:=hst3.nn ⟨by simp only[PS.one];omega,fun _=>by simp only[PS.one];omega⟩
       have hfewb:bt.2.Few:=by rw[hbt];exact(hb C s3).nn hfew3
       have hmb:m≤bt.2.deep:=by rw[hbt,(hb C s3).dp];exact hm3
       have hwh:=isF_excl hif (t':= [119,104,105,108,101]) (by decide);replace hfew3:=zi hfew3
       cases hel:isF C [101,108,115,101] bt.2 with
       |true=>
        obtain⟨be,hbe⟩:∃yy,yy=block C bt.2.next:=⟨_,rfl⟩;have hF:Hid (R=(({hd0 s.n with k:=10,c:=c.1},bt.1,be.1),be.2)):=zi (by rw[hR.out,hbe];unfold stmtF testF;simp only[hkf.out,hif,←hs2,←hc0,←hs3,←hbt,hel];rfl);have hfewe:Hid (bt.2.next.Few):=zi ((Stp.is_ hel).nn hfewb);replace hbe:=zi hbe;replace h1:=zi h1;replace h2:=zi h2;replace hif:=zi hif;replace hwh:=zi hwh;replace hel:=zi hel;replace hs2:=zi hs2;replace hc0:=zi hc0;replace hs3:=zi hs3;replace hbt:=zi hbt;clear hfewb hst3;refine(take_no VN.out.mv [114,101,116,117,114,110] h1.out).mono ?_;rintro e w1 ⟨rfl,q,hW⟩;have V1:=zi (VN.out.call q);clear q hW;go_wp2_with fail;refine(take_no V1.out.mv [97,115,115,101,114,116] h2.out).mono ?_;rintro e w2 ⟨rfl,q,hW⟩;have V2:=zi (V1.out.call q);clear q hW;go_wp2_with fail;refine(is_from V2.out.mv [105,102] hif.out).mono ?_;rintro e w3 ⟨rfl,q,hW⟩;have V3:=zi (V2.out.call q);clear q hW;obtain⟨fl,fz⟩:=V3.out.facts;have f0:w3.cell? ⟨gs,0,none⟩=some (.int .i64 0):=V3.out.fact 0 rfl
        have V4:VS C Z gs (s.one) #[.int .i64 10,.string ⟨#[]⟩,.string ⟨#[]⟩,.pointer none,.pointer none,.pointer none,.slice none 0 0,.slice none 0 0,.slice none 0 0,.int .i64 s.n] wa (w3.setCell ⟨gs,0,none⟩ (.int .i64 10)):=(V3.out.store 0 (.int .i64 10));obtain⟨w4,hw4⟩:∃ww,ww=(w3.setCell ⟨gs,0,none⟩ (.int .i64 10)):=⟨_,rfl⟩;rw[←hw4]at V4;replace V4:=zi V4;go_wp2_with fail;rw[←hw4];clear hw4 fl fz f0;refine(is_from V4.out.mv [119,104,105,108,101] hwh.out).mono ?_;rintro e w5 ⟨rfl,q,hW⟩;have V5:=zi (V4.out.call q);clear q hW;obtain⟨a0,d0,d1,d2,d3,d4,d5,d6,dfz⟩:=V5.out.mv.facts;have hi5:=V5.out.at_.bounds.2.2.1;have hw9:=i64_next (i:=(s.one).i) (by omega);have q:=V5.out.mv.next hi;have hW:Writes [some Z.g] w5 _:=q.wr;obtain⟨w6,hw6⟩:∃ww,ww=w5.setCell ⟨Z.g,1,none⟩ (.int .i64 (((s.one).i:Int)+1)):=⟨_,rfl⟩;rw[←hw6]at q hW;have V6:=zi (V5.out.call q);clear q hW hi5;go_wp2_with fail;rw[←hw6];clear hw6 a0 d0 d1 d2 d3 d4 d5 d6 dfz hw9;refine(want_from V6.out.mv [40] hs2.out.symm).mono ?_;rintro e w7 ⟨rfl,q,hW⟩;have V7:=zi (V6.out.call q);clear q hW;go_wp2_with fail
        refine(hcond.near V7.out.mv hm2 hc0.out.symm).mono ?_;rintro e w8 ⟨pc,rfl,q,hE,hW⟩;have V8:=zi (V7.out.call q);have Tc:=zi (hE.ge (B:=wa.heap.size) V7.out.wr.size);clear q hW hE;obtain⟨fl,fz⟩:=V8.out.facts;have f5:w8.cell? ⟨gs,5,none⟩=some (.pointer none):=V8.out.fact 5 rfl;have V9:VS C Z gs (c.2) #[.int .i64 10,.string ⟨#[]⟩,.string ⟨#[]⟩,.pointer none,.pointer none,.pointer pc,.slice none 0 0,.slice none 0 0,.slice none 0 0,.int .i64 s.n] wa (w8.setCell ⟨gs,5,none⟩ (.pointer pc)):=(V8.out.store 5 (.pointer pc));obtain⟨w9,hw9⟩:∃ww,ww=(w8.setCell ⟨gs,5,none⟩ (.pointer pc)):=⟨_,rfl⟩;rw[←hw9]at V9;replace V9:=zi V9;have Tc_9:=(Tc.out.st hlow 5 (.pointer pc));rw[←hw9]at Tc_9;replace Tc_9:=zi Tc_9;go_wp2_with fail;rw[←hw9];clear hw9 fl fz f5;refine(want_from V9.out.mv [41] hs3.out.symm).mono ?_;rintro e w10 ⟨rfl,q,hW⟩;have V10:=zi (V9.out.call q);have Tc_10:=zi (Tc_9.out.pw hW hltz);clear q hW;go_wp2_with fail;have hcc:=hblock C Z _ s3 V10.out.at_ hm3 hfew3.out;rw[←hbt.out]at hcc;refine hcc.mono ?_;clear hcc;rintro e w11 ⟨vbt,rfl,q,hE⟩;have hW:=q.wr;have V11:=zi (V10.out.call q)
        have Tc_11:=zi (Tc_10.out.pw hW hltz);have Tbt:=hE.ge (B:=wa.heap.size) V10.out.wr.size;obtain⟨Abt,cbt,ev⟩:=SlAt.slice_ Tbt;rw[ev]at Tbt⊢;replace Tbt:=zi Tbt;clear q hW hE ev;obtain⟨fl,fz⟩:=V11.out.facts;have f0:w11.cell? ⟨gs,0,none⟩=some (.int .i64 10):=V11.out.fact 0 rfl;have f7:w11.cell? ⟨gs,7,none⟩=some (.slice none 0 0):=V11.out.fact 7 rfl;have V12:VS C Z gs (bt.2) #[.int .i64 10,.string ⟨#[]⟩,.string ⟨#[]⟩,.pointer none,.pointer none,.pointer pc,.slice none 0 0,.slice Abt bt.1.len cbt,.slice none 0 0,.int .i64 s.n] wa (w11.setCell ⟨gs,7,none⟩ (.slice Abt bt.1.len cbt)):=(V11.out.store 7 (.slice Abt bt.1.len cbt));obtain⟨w12,hw12⟩:∃ww,ww=(w11.setCell ⟨gs,7,none⟩ (.slice Abt bt.1.len cbt)):=⟨_,rfl⟩;rw[←hw12]at V12;replace V12:=zi V12;have Tc_12:=(Tc_11.out.st hlow 7 (.slice Abt bt.1.len cbt));rw[←hw12]at Tc_12;replace Tc_12:=zi Tc_12;have Tbt_12:=(Tbt.out.st hlow 7 (.slice Abt bt.1.len cbt));rw[←hw12]at Tbt_12;replace Tbt_12:=zi Tbt_12;go_wp2_with fail;rw[←hw12];clear hw12 fl fz f0 f7;refine(take_yes V12.out.mv [101,108,115,101] hel.out rfl).mono ?_;rintro e w13 ⟨rfl,q,hW⟩
        have V13:=zi (V12.out.call q);have Tc_13:=zi (Tc_12.out.pw hW hltz);have Tbt_13:=zi (Tbt_12.out.pw hW hltz);clear q hW;go_wp2_with fail;have hcc:=hblock C Z _ bt.2.next V13.out.at_ hmb hfewe.out;rw[←hbe.out]at hcc;refine hcc.mono ?_;clear hcc;rintro e w14 ⟨vbe,rfl,q,hE⟩;have hW:=q.wr;have V14:=zi (V13.out.call q);have Tc_14:=zi (Tc_13.out.pw hW hltz);have Tbt_14:=zi (Tbt_13.out.pw hW hltz);have Tbe:=hE.ge (B:=wa.heap.size) V13.out.wr.size;obtain⟨Abe,cbe,ev⟩:=SlAt.slice_ Tbe;rw[ev]at Tbe⊢;replace Tbe:=zi Tbe;clear q hW hE ev;obtain⟨fl,fz⟩:=V14.out.facts;have f8:w14.cell? ⟨gs,8,none⟩=some (.slice none 0 0):=V14.out.fact 8 rfl;have V15:VS C Z gs (be.2) #[.int .i64 10,.string ⟨#[]⟩,.string ⟨#[]⟩,.pointer none,.pointer none,.pointer pc,.slice none 0 0,.slice Abt bt.1.len cbt,.slice Abe be.1.len cbe,.int .i64 s.n] wa (w14.setCell ⟨gs,8,none⟩ (.slice Abe be.1.len cbe)):=(V14.out.store 8 (.slice Abe be.1.len cbe));obtain⟨w15,hw15⟩:∃ww,ww=(w14.setCell ⟨gs,8,none⟩ (.slice Abe be.1.len cbe)):=⟨_,rfl⟩;rw[←hw15]at V15;replace V15:=zi V15;have Tc_15:=(Tc_14.out.st hlow 8 (.slice Abe be.1.len cbe))
        rw[←hw15]at Tc_15;replace Tc_15:=zi Tc_15;have Tbt_15:=(Tbt_14.out.st hlow 8 (.slice Abe be.1.len cbe));rw[←hw15]at Tbt_15;replace Tbt_15:=zi Tbt_15;have Tbe_15:=(Tbe.out.st hlow 8 (.slice Abe be.1.len cbe));rw[←hw15]at Tbe_15;replace Tbe_15:=zi Tbe_15;go_upto_region 35 with(fail);rw[←hw15];clear hw15 fl fz f8;obtain⟨fl,fz⟩:=V15.out.facts;have f0:w15.cell? ⟨gs,0,none⟩=some (.int .i64 10):=V15.out.fact 0 rfl;have f1:w15.cell? ⟨gs,1,none⟩=some (.string ⟨#[]⟩):=V15.out.fact 1 rfl;have f2:w15.cell? ⟨gs,2,none⟩=some (.string ⟨#[]⟩):=V15.out.fact 2 rfl;have f3:w15.cell? ⟨gs,3,none⟩=some (.pointer none):=V15.out.fact 3 rfl;have f4:w15.cell? ⟨gs,4,none⟩=some (.pointer none):=V15.out.fact 4 rfl;have f5:w15.cell? ⟨gs,5,none⟩=some (.pointer pc):=V15.out.fact 5 rfl;have f6:w15.cell? ⟨gs,6,none⟩=some (.slice none 0 0):=V15.out.fact 6 rfl;have f7:w15.cell? ⟨gs,7,none⟩=some (.slice Abt bt.1.len cbt):=V15.out.fact 7 rfl;have f8:w15.cell? ⟨gs,8,none⟩=some (.slice Abe be.1.len cbe):=V15.out.fact 8 rfl;have f9:w15.cell? ⟨gs,9,none⟩=some (.int .i64 s.n):=V15.out.fact 9 rfl
        have hgr1:Holds w15 gr 63 zero10:=V15.out.wr.holds hgr.out (by simp;omega);have g0:=hgr1.lt;have gz:=fun i=>hgr1.frozen i;have k0:w15.cell? ⟨gr,0,none⟩=some (.int .i64 0):=hgr1.cell 0;have k1:w15.cell? ⟨gr,1,none⟩=some (.string ⟨#[]⟩):=hgr1.cell 1;have k2:w15.cell? ⟨gr,2,none⟩=some (.string ⟨#[]⟩):=hgr1.cell 2;have k3:w15.cell? ⟨gr,3,none⟩=some (.pointer none):=hgr1.cell 3;have k4:w15.cell? ⟨gr,4,none⟩=some (.pointer none):=hgr1.cell 4;have k5:w15.cell? ⟨gr,5,none⟩=some (.pointer none):=hgr1.cell 5;have k6:w15.cell? ⟨gr,6,none⟩=some (.slice none 0 0):=hgr1.cell 6;have k7:w15.cell? ⟨gr,7,none⟩=some (.slice none 0 0):=hgr1.cell 7;have k8:w15.cell? ⟨gr,8,none⟩=some (.slice none 0 0):=hgr1.cell 8;have k9:w15.cell? ⟨gr,9,none⟩=some (.int .i64 0):=hgr1.cell 9;replace hgr1:=zi hgr1;go_wp2_with fail;refine ret_cellS rfl rfl rfl (put10_holds hgr1.out _ _ _ _ _ _ _ _ _ _) Tryz.underlying63 Tryz.sStmt ?_;rw[hF.out]
        exact StPost.of (h:={hd0 s.n with k:=10,c:=c.1}) V15.out ⟨ExAt.nil_ _ _,ExAt.nil_ _ _,Tc_15.out,AgsAt.nil_ _ _,Nat.zero_le 4096,Nat.zero_le 4096,(by decide:10≤12),hn1⟩ (Tbt_15.out) (Tbe_15.out) hz0 hba.out hgr0 hgs0 hgrl (put10_writes _ _ _ _ _ _ _ _ _ _ _ _)
       |false=>
        have hF:Hid (R=(({hd0 s.n with k:=10,c:=c.1},bt.1,.nil),bt.2)):=zi (by rw[hR.out];unfold stmtF testF;simp only[hkf.out,hif,←hs2,←hc0,←hs3,←hbt,hel];rfl);replace h1:=zi h1;replace h2:=zi h2;replace hif:=zi hif;replace hwh:=zi hwh;replace hel:=zi hel;replace hs2:=zi hs2;replace hc0:=zi hc0;replace hs3:=zi hs3;replace hbt:=zi hbt;clear hfewb hst3;refine(take_no VN.out.mv [114,101,116,117,114,110] h1.out).mono ?_;rintro e w1 ⟨rfl,q,hW⟩;have V1:=zi (VN.out.call q);clear q hW;go_wp2_with fail;refine(take_no V1.out.mv [97,115,115,101,114,116] h2.out).mono ?_;rintro e w2 ⟨rfl,q,hW⟩;have V2:=zi (V1.out.call q);clear q hW;go_wp2_with fail;refine(is_from V2.out.mv [105,102] hif.out).mono ?_;rintro e w3 ⟨rfl,q,hW⟩;have V3:=zi (V2.out.call q);clear q hW;obtain⟨fl,fz⟩:=V3.out.facts;have f0:w3.cell? ⟨gs,0,none⟩=some (.int .i64 0):=V3.out.fact 0 rfl
        have V4:VS C Z gs (s.one) #[.int .i64 10,.string ⟨#[]⟩,.string ⟨#[]⟩,.pointer none,.pointer none,.pointer none,.slice none 0 0,.slice none 0 0,.slice none 0 0,.int .i64 s.n] wa (w3.setCell ⟨gs,0,none⟩ (.int .i64 10)):=(V3.out.store 0 (.int .i64 10));obtain⟨w4,hw4⟩:∃ww,ww=(w3.setCell ⟨gs,0,none⟩ (.int .i64 10)):=⟨_,rfl⟩;rw[←hw4]at V4;replace V4:=zi V4;go_wp2_with fail;rw[←hw4];clear hw4 fl fz f0;refine(is_from V4.out.mv [119,104,105,108,101] hwh.out).mono ?_;rintro e w5 ⟨rfl,q,hW⟩;have V5:=zi (V4.out.call q);clear q hW;obtain⟨a0,d0,d1,d2,d3,d4,d5,d6,dfz⟩:=V5.out.mv.facts;have hi5:=V5.out.at_.bounds.2.2.1;have hw9:=i64_next (i:=(s.one).i) (by omega);have q:=V5.out.mv.next hi;have hW:Writes [some Z.g] w5 _:=q.wr;obtain⟨w6,hw6⟩:∃ww,ww=w5.setCell ⟨Z.g,1,none⟩ (.int .i64 (((s.one).i:Int)+1)):=⟨_,rfl⟩;rw[←hw6]at q hW;have V6:=zi (V5.out.call q);clear q hW hi5;go_wp2_with fail;rw[←hw6];clear hw6 a0 d0 d1 d2 d3 d4 d5 d6 dfz hw9;refine(want_from V6.out.mv [40] hs2.out.symm).mono ?_;rintro e w7 ⟨rfl,q,hW⟩;have V7:=zi (V6.out.call q);clear q hW;go_wp2_with fail
        refine(hcond.near V7.out.mv hm2 hc0.out.symm).mono ?_;rintro e w8 ⟨pc,rfl,q,hE,hW⟩;have V8:=zi (V7.out.call q);have Tc:=zi (hE.ge (B:=wa.heap.size) V7.out.wr.size);clear q hW hE;obtain⟨fl,fz⟩:=V8.out.facts;have f5:w8.cell? ⟨gs,5,none⟩=some (.pointer none):=V8.out.fact 5 rfl;have V9:VS C Z gs (c.2) #[.int .i64 10,.string ⟨#[]⟩,.string ⟨#[]⟩,.pointer none,.pointer none,.pointer pc,.slice none 0 0,.slice none 0 0,.slice none 0 0,.int .i64 s.n] wa (w8.setCell ⟨gs,5,none⟩ (.pointer pc)):=(V8.out.store 5 (.pointer pc));obtain⟨w9,hw9⟩:∃ww,ww=(w8.setCell ⟨gs,5,none⟩ (.pointer pc)):=⟨_,rfl⟩;rw[←hw9]at V9;replace V9:=zi V9;have Tc_9:=(Tc.out.st hlow 5 (.pointer pc));rw[←hw9]at Tc_9;replace Tc_9:=zi Tc_9;go_wp2_with fail;rw[←hw9];clear hw9 fl fz f5;refine(want_from V9.out.mv [41] hs3.out.symm).mono ?_;rintro e w10 ⟨rfl,q,hW⟩;have V10:=zi (V9.out.call q);have Tc_10:=zi (Tc_9.out.pw hW hltz);clear q hW;go_wp2_with fail;have hcc:=hblock C Z _ s3 V10.out.at_ hm3 hfew3.out;rw[←hbt.out]at hcc;refine hcc.mono ?_;clear hcc;rintro e w11 ⟨vbt,rfl,q,hE⟩;have hW:=q.wr;have V11:=zi (V10.out.call q)
        have Tc_11:=zi (Tc_10.out.pw hW hltz);have Tbt:=hE.ge (B:=wa.heap.size) V10.out.wr.size;obtain⟨Abt,cbt,ev⟩:=SlAt.slice_ Tbt;rw[ev]at Tbt⊢;replace Tbt:=zi Tbt;clear q hW hE ev;obtain⟨fl,fz⟩:=V11.out.facts;have f0:w11.cell? ⟨gs,0,none⟩=some (.int .i64 10):=V11.out.fact 0 rfl;have f7:w11.cell? ⟨gs,7,none⟩=some (.slice none 0 0):=V11.out.fact 7 rfl;have V12:VS C Z gs (bt.2) #[.int .i64 10,.string ⟨#[]⟩,.string ⟨#[]⟩,.pointer none,.pointer none,.pointer pc,.slice none 0 0,.slice Abt bt.1.len cbt,.slice none 0 0,.int .i64 s.n] wa (w11.setCell ⟨gs,7,none⟩ (.slice Abt bt.1.len cbt)):=(V11.out.store 7 (.slice Abt bt.1.len cbt));obtain⟨w12,hw12⟩:∃ww,ww=(w11.setCell ⟨gs,7,none⟩ (.slice Abt bt.1.len cbt)):=⟨_,rfl⟩;rw[←hw12]at V12;replace V12:=zi V12;have Tc_12:=(Tc_11.out.st hlow 7 (.slice Abt bt.1.len cbt));rw[←hw12]at Tc_12;replace Tc_12:=zi Tc_12;have Tbt_12:=(Tbt.out.st hlow 7 (.slice Abt bt.1.len cbt));rw[←hw12]at Tbt_12;replace Tbt_12:=zi Tbt_12;go_wp2_with fail;rw[←hw12];clear hw12 fl fz f0 f7;refine(take_no V12.out.mv [101,108,115,101] hel.out).mono ?_;rintro e w13 ⟨rfl,q,hW⟩
        have V13:=zi (V12.out.call q);have Tc_13:=zi (Tc_12.out.pw hW hltz);have Tbt_13:=zi (Tbt_12.out.pw hW hltz);clear q hW;obtain⟨fl,fz⟩:=V13.out.facts;have f0:w13.cell? ⟨gs,0,none⟩=some (.int .i64 10):=V13.out.fact 0 rfl;have f1:w13.cell? ⟨gs,1,none⟩=some (.string ⟨#[]⟩):=V13.out.fact 1 rfl;have f2:w13.cell? ⟨gs,2,none⟩=some (.string ⟨#[]⟩):=V13.out.fact 2 rfl;have f3:w13.cell? ⟨gs,3,none⟩=some (.pointer none):=V13.out.fact 3 rfl;have f4:w13.cell? ⟨gs,4,none⟩=some (.pointer none):=V13.out.fact 4 rfl;have f5:w13.cell? ⟨gs,5,none⟩=some (.pointer pc):=V13.out.fact 5 rfl;have f6:w13.cell? ⟨gs,6,none⟩=some (.slice none 0 0):=V13.out.fact 6 rfl;have f7:w13.cell? ⟨gs,7,none⟩=some (.slice Abt bt.1.len cbt):=V13.out.fact 7 rfl;have f8:w13.cell? ⟨gs,8,none⟩=some (.slice none 0 0):=V13.out.fact 8 rfl;have f9:w13.cell? ⟨gs,9,none⟩=some (.int .i64 s.n):=V13.out.fact 9 rfl;have hgr1:Holds w13 gr 63 zero10:=V13.out.wr.holds hgr.out (by simp;omega);have g0:=hgr1.lt;have gz:=fun i=>hgr1.frozen i;have k0:w13.cell? ⟨gr,0,none⟩=some (.int .i64 0):=hgr1.cell 0
        have k1:w13.cell? ⟨gr,1,none⟩=some (.string ⟨#[]⟩):=hgr1.cell 1;have k2:w13.cell? ⟨gr,2,none⟩=some (.string ⟨#[]⟩):=hgr1.cell 2;have k3:w13.cell? ⟨gr,3,none⟩=some (.pointer none):=hgr1.cell 3;have k4:w13.cell? ⟨gr,4,none⟩=some (.pointer none):=hgr1.cell 4;have k5:w13.cell? ⟨gr,5,none⟩=some (.pointer none):=hgr1.cell 5;have k6:w13.cell? ⟨gr,6,none⟩=some (.slice none 0 0):=hgr1.cell 6;have k7:w13.cell? ⟨gr,7,none⟩=some (.slice none 0 0):=hgr1.cell 7;have k8:w13.cell? ⟨gr,8,none⟩=some (.slice none 0 0):=hgr1.cell 8;have k9:w13.cell? ⟨gr,9,none⟩=some (.int .i64 0):=hgr1.cell 9;replace hgr1:=zi hgr1;go_wp2_with fail;refine ret_cellS rfl rfl rfl (put10_holds hgr1.out _ _ _ _ _ _ _ _ _ _) Tryz.underlying63 Tryz.sStmt ?_;rw[hF.out];exact StPost.of (h:={hd0 s.n with k:=10,c:=c.1}) V13.out ⟨ExAt.nil_ _ _,ExAt.nil_ _ _,Tc_13.out,AgsAt.nil_ _ _,Nat.zero_le 4096,Nat.zero_le 4096,(by decide:10≤12),hn1⟩ (Tbt_13.out) (SlAt.nil_ _ _) hz0 hba.out hgr0 hgs0 hgrl (put10_writes _ _ _ _ _ _ _ _ _ _ _ _)
      |false=>
       cases hwh:isF C [119,104,105,108,101] s.one with
       |true=>
        obtain⟨s2,hs2⟩:∃yy,yy=wantF C [40] s.one.next:=⟨_,rfl⟩;obtain⟨c,hc0⟩:∃yy,yy=cond C s2:=⟨_,rfl⟩;obtain⟨s3,hs3⟩:∃yy,yy=wantF C [41] c.2:=⟨_,rfl⟩;obtain⟨bt,hbt⟩:∃yy,yy=block C s3:=⟨_,rfl⟩
        have hkn2:¬200≤s.n:=fun h=>by have:=hkf.out;rw[decide_eq_true h,Bool.and_true]at this;unfold knownF at this;rw[show isF C [119,104,105,108,101] s=true from hwh]at this;simp at this
        have hi:=isF_lt hwh
        have hm2:m≤s2.deep:=by rw[hs2,(Stp.want _ _).dp];exact hm
        have hm3:m≤s3.deep:=by rw[hs3,(Stp.want _ _).dp,hc0,(hc C _).dp];exact hm2
        have hst3:Stp C s.one s3:=by rw[hs3,hc0,hs2];exact(((Stp.is_ hwh).trans (Stp.want _ _)).trans (hc C _)).trans (Stp.want _ _)
        have hfew3:s3.Few:=hst3.nn ⟨by simp only[PS.one];omega,fun _=>by simp only[PS.one];omega⟩;replace hfew3:=zi hfew3;have hF:Hid (R=(({hd0 s.n with k:=11,c:=c.1},bt.1,.nil),bt.2)):=zi (by rw[hR.out];unfold stmtF testF;simp only[hkf.out,hif,hwh,←hs2,←hc0,←hs3,←hbt];rfl);replace h1:=zi h1;replace h2:=zi h2;replace hif:=zi hif;replace hwh:=zi hwh;replace hs2:=zi hs2;replace hc0:=zi hc0;replace hs3:=zi hs3;replace hbt:=zi hbt;clear hst3;refine(take_no VN.out.mv [114,101,116,117,114,110] h1.out).mono ?_;rintro e w1 ⟨rfl,q,hW⟩;have V1:=zi (VN.out.call q);clear q hW;go_wp2_with fail;refine(take_no V1.out.mv [97,115,115,101,114,116] h2.out).mono ?_;rintro e w2 ⟨rfl,q,hW⟩;have V2:=zi (V1.out.call q);clear q hW;go_wp2_with fail;refine(is_from V2.out.mv [105,102] hif.out).mono ?_;rintro e w3 ⟨rfl,q,hW⟩;have V3:=zi (V2.out.call q);clear q hW;go_wp2_with fail;refine(is_from V3.out.mv [119,104,105,108,101] hwh.out).mono ?_;rintro e w4 ⟨rfl,q,hW⟩;have V4:=zi (V3.out.call q);clear q hW;obtain⟨fl,fz⟩:=V4.out.facts
        have f0:w4.cell? ⟨gs,0,none⟩=some (.int .i64 0):=V4.out.fact 0 rfl;have V5:VS C Z gs (s.one) #[.int .i64 10,.string ⟨#[]⟩,.string ⟨#[]⟩,.pointer none,.pointer none,.pointer none,.slice none 0 0,.slice none 0 0,.slice none 0 0,.int .i64 s.n] wa (w4.setCell ⟨gs,0,none⟩ (.int .i64 10)):=(V4.out.store 0 (.int .i64 10));obtain⟨w5,hw5⟩:∃ww,ww=(w4.setCell ⟨gs,0,none⟩ (.int .i64 10)):=⟨_,rfl⟩;rw[←hw5]at V5;replace V5:=zi V5;go_wp2_with fail;rw[←hw5];clear hw5 fl fz f0;refine(is_from V5.out.mv [119,104,105,108,101] hwh.out).mono ?_;rintro e w6 ⟨rfl,q,hW⟩;have V6:=zi (V5.out.call q);clear q hW;obtain⟨fl,fz⟩:=V6.out.facts;have f0:w6.cell? ⟨gs,0,none⟩=some (.int .i64 10):=V6.out.fact 0 rfl;have V7:VS C Z gs (s.one) #[.int .i64 11,.string ⟨#[]⟩,.string ⟨#[]⟩,.pointer none,.pointer none,.pointer none,.slice none 0 0,.slice none 0 0,.slice none 0 0,.int .i64 s.n] wa (w6.setCell ⟨gs,0,none⟩ (.int .i64 11)):=(V6.out.store 0 (.int .i64 11));obtain⟨w7,hw7⟩:∃ww,ww=(w6.setCell ⟨gs,0,none⟩ (.int .i64 11)):=⟨_,rfl⟩;rw[←hw7]at V7;replace V7:=zi V7;go_upto_region 28 with(fail);rw[←hw7];clear hw7 fl fz f0
        obtain⟨a0,d0,d1,d2,d3,d4,d5,d6,dfz⟩:=V7.out.mv.facts;have hi5:=V7.out.at_.bounds.2.2.1;have hw9:=i64_next (i:=(s.one).i) (by omega);have q:=V7.out.mv.next hi;have hW:Writes [some Z.g] w7 _:=q.wr;obtain⟨w8,hw8⟩:∃ww,ww=w7.setCell ⟨Z.g,1,none⟩ (.int .i64 (((s.one).i:Int)+1)):=⟨_,rfl⟩;rw[←hw8]at q hW;have V8:=zi (V7.out.call q);clear q hW hi5;go_wp2_with fail;rw[←hw8];clear hw8 a0 d0 d1 d2 d3 d4 d5 d6 dfz hw9;refine(want_from V8.out.mv [40] hs2.out.symm).mono ?_;rintro e w9 ⟨rfl,q,hW⟩;have V9:=zi (V8.out.call q);clear q hW;go_wp2_with fail;refine(hcond.near V9.out.mv hm2 hc0.out.symm).mono ?_;rintro e w10 ⟨pc,rfl,q,hE,hW⟩;have V10:=zi (V9.out.call q);have Tc:=zi (hE.ge (B:=wa.heap.size) V9.out.wr.size);clear q hW hE;obtain⟨fl,fz⟩:=V10.out.facts;have f5:w10.cell? ⟨gs,5,none⟩=some (.pointer none):=V10.out.fact 5 rfl;have V11:VS C Z gs (c.2) #[.int .i64 11,.string ⟨#[]⟩,.string ⟨#[]⟩,.pointer none,.pointer none,.pointer pc,.slice none 0 0,.slice none 0 0,.slice none 0 0,.int .i64 s.n] wa (w10.setCell ⟨gs,5,none⟩ (.pointer pc)):=(V10.out.store 5 (.pointer pc))
        obtain⟨w11,hw11⟩:∃ww,ww=(w10.setCell ⟨gs,5,none⟩ (.pointer pc)):=⟨_,rfl⟩;rw[←hw11]at V11;replace V11:=zi V11;have Tc_11:=(Tc.out.st hlow 5 (.pointer pc));rw[←hw11]at Tc_11;replace Tc_11:=zi Tc_11;go_wp2_with fail;rw[←hw11];clear hw11 fl fz f5;refine(want_from V11.out.mv [41] hs3.out.symm).mono ?_;rintro e w12 ⟨rfl,q,hW⟩;have V12:=zi (V11.out.call q);have Tc_12:=zi (Tc_11.out.pw hW hltz);clear q hW;go_wp2_with fail;have hcc:=hblock C Z _ s3 V12.out.at_ hm3 hfew3.out;rw[←hbt.out]at hcc;refine hcc.mono ?_;clear hcc;rintro e w13 ⟨vbt,rfl,q,hE⟩;have hW:=q.wr;have V13:=zi (V12.out.call q);have Tc_13:=zi (Tc_12.out.pw hW hltz);have Tbt:=hE.ge (B:=wa.heap.size) V12.out.wr.size;obtain⟨Abt,cbt,ev⟩:=SlAt.slice_ Tbt;rw[ev]at Tbt⊢;replace Tbt:=zi Tbt;clear q hW hE ev;obtain⟨fl,fz⟩:=V13.out.facts;have f7:w13.cell? ⟨gs,7,none⟩=some (.slice none 0 0):=V13.out.fact 7 rfl
        have V14:VS C Z gs (bt.2) #[.int .i64 11,.string ⟨#[]⟩,.string ⟨#[]⟩,.pointer none,.pointer none,.pointer pc,.slice none 0 0,.slice Abt bt.1.len cbt,.slice none 0 0,.int .i64 s.n] wa (w13.setCell ⟨gs,7,none⟩ (.slice Abt bt.1.len cbt)):=(V13.out.store 7 (.slice Abt bt.1.len cbt));obtain⟨w14,hw14⟩:∃ww,ww=(w13.setCell ⟨gs,7,none⟩ (.slice Abt bt.1.len cbt)):=⟨_,rfl⟩;rw[←hw14]at V14;replace V14:=zi V14;have Tc_14:=(Tc_13.out.st hlow 7 (.slice Abt bt.1.len cbt));rw[←hw14]at Tc_14;replace Tc_14:=zi Tc_14;have Tbt_14:=(Tbt.out.st hlow 7 (.slice Abt bt.1.len cbt));rw[←hw14]at Tbt_14;replace Tbt_14:=zi Tbt_14;go_upto_region 33 with(fail);rw[←hw14];clear hw14 fl fz f7;obtain⟨fl,fz⟩:=V14.out.facts;have f0:w14.cell? ⟨gs,0,none⟩=some (.int .i64 11):=V14.out.fact 0 rfl;have f1:w14.cell? ⟨gs,1,none⟩=some (.string ⟨#[]⟩):=V14.out.fact 1 rfl;have f2:w14.cell? ⟨gs,2,none⟩=some (.string ⟨#[]⟩):=V14.out.fact 2 rfl;have f3:w14.cell? ⟨gs,3,none⟩=some (.pointer none):=V14.out.fact 3 rfl;have f4:w14.cell? ⟨gs,4,none⟩=some (.pointer none):=V14.out.fact 4 rfl
        have f5:w14.cell? ⟨gs,5,none⟩=some (.pointer pc):=V14.out.fact 5 rfl;have f6:w14.cell? ⟨gs,6,none⟩=some (.slice none 0 0):=V14.out.fact 6 rfl;have f7:w14.cell? ⟨gs,7,none⟩=some (.slice Abt bt.1.len cbt):=V14.out.fact 7 rfl;have f8:w14.cell? ⟨gs,8,none⟩=some (.slice none 0 0):=V14.out.fact 8 rfl;have f9:w14.cell? ⟨gs,9,none⟩=some (.int .i64 s.n):=V14.out.fact 9 rfl;have hgr1:Holds w14 gr 63 zero10:=V14.out.wr.holds hgr.out (by simp;omega);have g0:=hgr1.lt;have gz:=fun i=>hgr1.frozen i;have k0:w14.cell? ⟨gr,0,none⟩=some (.int .i64 0):=hgr1.cell 0;have k1:w14.cell? ⟨gr,1,none⟩=some (.string ⟨#[]⟩):=hgr1.cell 1;have k2:w14.cell? ⟨gr,2,none⟩=some (.string ⟨#[]⟩):=hgr1.cell 2;have k3:w14.cell? ⟨gr,3,none⟩=some (.pointer none):=hgr1.cell 3;have k4:w14.cell? ⟨gr,4,none⟩=some (.pointer none):=hgr1.cell 4;have k5:w14.cell? ⟨gr,5,none⟩=some (.pointer none):=hgr1.cell 5;have k6:w14.cell? ⟨gr,6,none⟩=some (.slice none 0 0):=hgr1.cell 6;have k7:w14.cell? ⟨gr,7,none⟩=some (.slice none 0 0):=hgr1.cell 7;have k8:w14.cell? ⟨gr,8,none⟩=some (.slice none 0 0):=hgr1.cell 8
        have k9:w14.cell? ⟨gr,9,none⟩=some (.int .i64 0):=hgr1.cell 9;replace hgr1:=zi hgr1;go_wp2_with fail;refine ret_cellS rfl rfl rfl (put10_holds hgr1.out _ _ _ _ _ _ _ _ _ _) Tryz.underlying63 Tryz.sStmt ?_;rw[hF.out];exact StPost.of (h:={hd0 s.n with k:=11,c:=c.1}) V14.out ⟨ExAt.nil_ _ _,ExAt.nil_ _ _,Tc_14.out,AgsAt.nil_ _ _,Nat.zero_le 4096,Nat.zero_le 4096,(by decide:11≤12),hn1⟩ (Tbt_14.out) (SlAt.nil_ _ _) hz0 hba.out hgr0 hgs0 hgrl (put10_writes _ _ _ _ _ _ _ _ _ _ _ _)
       |false=>
        cases h3:isF C [42] s.one with
        |true=>
         obtain⟨x,hx⟩:∃yy,yy=(nameF C s.one.next).1:=⟨_,rfl⟩;obtain⟨s2,hs2⟩:∃yy,yy=(nameF C s.one.next).2:=⟨_,rfl⟩;obtain⟨s3,hs3⟩:∃yy,yy=wantF C [61] s2:=⟨_,rfl⟩;obtain⟨r,hr⟩:∃yy,yy=sum C s3:=⟨_,rfl⟩;obtain⟨s5,hs5⟩:∃yy,yy=wantF C [59] r.2:=⟨_,rfl⟩;have hF:Hid (R=(({hd0 s.n with k:=5,x:=x,e:=r.1},.nil,.nil),s5)):=zi (by rw[hR.out,hs5,hr,hs3,hs2,hx];unfold stmtF plainF;simp only[hkf.out,hif,hwh,h1,h2,h3];rfl)
         have hm3:m≤s3.deep:=by rw[hs3,(Stp.want _ _).dp,hs2,(Stp.name _).dp];exact hm
         have hnf:Hid (nameF C s.one.next=(x,s2)):=zi (by rw[hx,hs2]);clear hx hs2;replace hs3:=zi hs3;replace hr:=zi hr;replace hs5:=zi hs5;replace h1:=zi h1;replace h2:=zi h2;replace hif:=zi hif;replace hwh:=zi hwh;replace h3:=zi h3;refine(take_no VN.out.mv [114,101,116,117,114,110] h1.out).mono ?_;rintro e w1 ⟨rfl,q,hW⟩;have V1:=zi (VN.out.call q);clear q hW;go_wp2_with fail;refine(take_no V1.out.mv [97,115,115,101,114,116] h2.out).mono ?_;rintro e w2 ⟨rfl,q,hW⟩;have V2:=zi (V1.out.call q);clear q hW;go_wp2_with fail;refine(is_from V2.out.mv [105,102] hif.out).mono ?_;rintro e w3 ⟨rfl,q,hW⟩;have V3:=zi (V2.out.call q);clear q hW;go_wp2_with fail;refine(is_from V3.out.mv [119,104,105,108,101] hwh.out).mono ?_;rintro e w4 ⟨rfl,q,hW⟩;have V4:=zi (V3.out.call q);clear q hW;go_wp2_with fail;refine(take_yes V4.out.mv [42] h3.out rfl).mono ?_;rintro e w5 ⟨rfl,q,hW⟩;have V5:=zi (V4.out.call q);clear q hW;go_wp2_with fail;refine(name_from V5.out.mv hnf.out).mono ?_;rintro e w6 ⟨rfl,q,xl,hW⟩;have V6:=zi (V5.out.call q);clear q hW;obtain⟨fl,fz⟩:=V6.out.facts
         have f0:w6.cell? ⟨gs,0,none⟩=some (.int .i64 0):=V6.out.fact 0 rfl;have f1:w6.cell? ⟨gs,1,none⟩=some (.string ⟨#[]⟩):=V6.out.fact 1 rfl;have V7:VS C Z gs (s2) #[.int .i64 5,.string (strV x),.string ⟨#[]⟩,.pointer none,.pointer none,.pointer none,.slice none 0 0,.slice none 0 0,.slice none 0 0,.int .i64 s.n] wa ((w6.setCell ⟨gs,0,none⟩ (.int .i64 5)).setCell ⟨gs,1,none⟩ (.string (strV x))):=((V6.out.store 0 (.int .i64 5)).store 1 (.string (strV x)));obtain⟨w7,hw7⟩:∃ww,ww=((w6.setCell ⟨gs,0,none⟩ (.int .i64 5)).setCell ⟨gs,1,none⟩ (.string (strV x))):=⟨_,rfl⟩;rw[←hw7]at V7;replace V7:=zi V7;go_wp2_with fail;rw[←hw7];clear hw7 fl fz f0 f1;refine(want_from V7.out.mv [61] hs3.out.symm).mono ?_;rintro e w8 ⟨rfl,q,hW⟩;have V8:=zi (V7.out.call q);clear q hW;go_wp2_with fail;refine(hsum.near V8.out.mv hm3 hr.out.symm).mono ?_;rintro e w9 ⟨pr,rfl,q,hE,hW⟩;have V9:=zi (V8.out.call q);have Tr:=zi (hE.ge (B:=wa.heap.size) V8.out.wr.size);clear q hW hE;obtain⟨fl,fz⟩:=V9.out.facts;have f3:w9.cell? ⟨gs,3,none⟩=some (.pointer none):=V9.out.fact 3 rfl
         have V10:VS C Z gs (r.2) #[.int .i64 5,.string (strV x),.string ⟨#[]⟩,.pointer pr,.pointer none,.pointer none,.slice none 0 0,.slice none 0 0,.slice none 0 0,.int .i64 s.n] wa (w9.setCell ⟨gs,3,none⟩ (.pointer pr)):=(V9.out.store 3 (.pointer pr));obtain⟨w10,hw10⟩:∃ww,ww=(w9.setCell ⟨gs,3,none⟩ (.pointer pr)):=⟨_,rfl⟩;rw[←hw10]at V10;replace V10:=zi V10;have Tr_10:=(Tr.out.st hlow 3 (.pointer pr));rw[←hw10]at Tr_10;replace Tr_10:=zi Tr_10;go_wp2_with fail;rw[←hw10];clear hw10 fl fz f3;refine(want_from V10.out.mv [59] hs5.out.symm).mono ?_;rintro e w11 ⟨rfl,q,hW⟩;have V11:=zi (V10.out.call q);have Tr_11:=zi (Tr_10.out.pw hW hltz);clear q hW;obtain⟨fl,fz⟩:=V11.out.facts;have f0:w11.cell? ⟨gs,0,none⟩=some (.int .i64 5):=V11.out.fact 0 rfl;have f1:w11.cell? ⟨gs,1,none⟩=some (.string (strV x)):=V11.out.fact 1 rfl;have f2:w11.cell? ⟨gs,2,none⟩=some (.string ⟨#[]⟩):=V11.out.fact 2 rfl;have f3:w11.cell? ⟨gs,3,none⟩=some (.pointer pr):=V11.out.fact 3 rfl;have f4:w11.cell? ⟨gs,4,none⟩=some (.pointer none):=V11.out.fact 4 rfl
         have f5:w11.cell? ⟨gs,5,none⟩=some (.pointer none):=V11.out.fact 5 rfl;have f6:w11.cell? ⟨gs,6,none⟩=some (.slice none 0 0):=V11.out.fact 6 rfl;have f7:w11.cell? ⟨gs,7,none⟩=some (.slice none 0 0):=V11.out.fact 7 rfl;have f8:w11.cell? ⟨gs,8,none⟩=some (.slice none 0 0):=V11.out.fact 8 rfl;have f9:w11.cell? ⟨gs,9,none⟩=some (.int .i64 s.n):=V11.out.fact 9 rfl;have hgr1:Holds w11 gr 63 zero10:=V11.out.wr.holds hgr.out (by simp;omega);have g0:=hgr1.lt;have gz:=fun i=>hgr1.frozen i;have k0:w11.cell? ⟨gr,0,none⟩=some (.int .i64 0):=hgr1.cell 0;have k1:w11.cell? ⟨gr,1,none⟩=some (.string ⟨#[]⟩):=hgr1.cell 1;have k2:w11.cell? ⟨gr,2,none⟩=some (.string ⟨#[]⟩):=hgr1.cell 2;have k3:w11.cell? ⟨gr,3,none⟩=some (.pointer none):=hgr1.cell 3;have k4:w11.cell? ⟨gr,4,none⟩=some (.pointer none):=hgr1.cell 4;have k5:w11.cell? ⟨gr,5,none⟩=some (.pointer none):=hgr1.cell 5;have k6:w11.cell? ⟨gr,6,none⟩=some (.slice none 0 0):=hgr1.cell 6;have k7:w11.cell? ⟨gr,7,none⟩=some (.slice none 0 0):=hgr1.cell 7;have k8:w11.cell? ⟨gr,8,none⟩=some (.slice none 0 0):=hgr1.cell 8
         have k9:w11.cell? ⟨gr,9,none⟩=some (.int .i64 0):=hgr1.cell 9;replace hgr1:=zi hgr1;go_wp2_with fail;refine ret_cellS rfl rfl rfl (put10_holds hgr1.out _ _ _ _ _ _ _ _ _ _) Tryz.underlying63 Tryz.sStmt ?_;rw[hF.out];exact StPost.of (h:={hd0 s.n with k:=5,x:=x,e:=r.1}) V11.out ⟨Tr_11.out,ExAt.nil_ _ _,CnAt.nil_ _ _,AgsAt.nil_ _ _,xl,Nat.zero_le 4096,(by decide:5≤12),hn1⟩ (SlAt.nil_ _ _) (SlAt.nil_ _ _) hz0 hba.out hgr0 hgs0 hgrl (put10_writes _ _ _ _ _ _ _ _ _ _ _ _)
        |false=>
         obtain⟨x,hx⟩:∃yy,yy=(nameF C s.one).1:=⟨_,rfl⟩;obtain⟨s2,hs2⟩:∃yy,yy=(nameF C s.one).2:=⟨_,rfl⟩
         cases h4:isF C [40] s2 with
         |true=>
          obtain⟨r,hr⟩:∃yy,yy=argsF C (sum C) s2.next:=⟨_,rfl⟩;obtain⟨s5,hs5⟩:∃yy,yy=wantF C [59] r.2:=⟨_,rfl⟩;have hF:Hid (R=(({hd0 s.n with k:=8,y:=x,args:=r.1},.nil,.nil),s5)):=zi (by rw[hR.out,hs5,hr];unfold stmtF plainF;simp only[hkf.out,hif,hwh,h1,h2,h3,←hs2,←hx,h4];rfl)
          have hm2:m≤s2.next.deep:=by rw[hs2];simp only[PS.next];rw[(Stp.name _).dp];exact hm
          have hnf:Hid (nameF C s.one=(x,s2)):=zi (by rw[hx,hs2]);clear hx hs2;replace hr:=zi hr;replace hs5:=zi hs5;replace h1:=zi h1;replace h2:=zi h2;replace hif:=zi hif;replace hwh:=zi hwh;replace h3:=zi h3;replace h4:=zi h4;refine(take_no VN.out.mv [114,101,116,117,114,110] h1.out).mono ?_;rintro e w1 ⟨rfl,q,hW⟩;have V1:=zi (VN.out.call q);clear q hW;go_wp2_with fail;refine(take_no V1.out.mv [97,115,115,101,114,116] h2.out).mono ?_;rintro e w2 ⟨rfl,q,hW⟩;have V2:=zi (V1.out.call q);clear q hW;go_wp2_with fail;refine(is_from V2.out.mv [105,102] hif.out).mono ?_;rintro e w3 ⟨rfl,q,hW⟩;have V3:=zi (V2.out.call q);clear q hW;go_wp2_with fail;refine(is_from V3.out.mv [119,104,105,108,101] hwh.out).mono ?_;rintro e w4 ⟨rfl,q,hW⟩;have V4:=zi (V3.out.call q);clear q hW;go_wp2_with fail;refine(take_no V4.out.mv [42] h3.out).mono ?_;rintro e w5 ⟨rfl,q,hW⟩;have V5:=zi (V4.out.call q);clear q hW;go_wp2_with fail;refine(name_from V5.out.mv hnf.out).mono ?_;rintro e w6 ⟨rfl,q,xl,hW⟩;have V6:=zi (V5.out.call q);clear q hW;go_wp2_with fail;refine(take_yes V6.out.mv [40] h4.out rfl).mono ?_
          rintro e w7 ⟨rfl,q,hW⟩;have V7:=zi (V6.out.call q);clear q hW;go_wp2_with fail;have hcc:=args_step m sum hsum hs C Z _ s2.next V7.out.at_ hm2;rw[←hr.out]at hcc;refine hcc.mono ?_;clear hcc;rintro e w8 ⟨vr,rfl,q,hE⟩;have hW:=q.wr;have V8:=zi (V7.out.call q);have Tr:=hE.ge (B:=wa.heap.size) V7.out.wr.size;obtain⟨Ar,cr,ev⟩:=agsAt_slice Tr;rw[ev]at Tr⊢;replace Tr:=zi Tr;clear q hW hE ev;obtain⟨fl,fz⟩:=V8.out.facts;have f0:w8.cell? ⟨gs,0,none⟩=some (.int .i64 0):=V8.out.fact 0 rfl;have f2:w8.cell? ⟨gs,2,none⟩=some (.string ⟨#[]⟩):=V8.out.fact 2 rfl;have f6:w8.cell? ⟨gs,6,none⟩=some (.slice none 0 0):=V8.out.fact 6 rfl;have V9:VS C Z gs (r.2) #[.int .i64 8,.string ⟨#[]⟩,.string (strV x),.pointer none,.pointer none,.pointer none,.slice Ar r.1.length cr,.slice none 0 0,.slice none 0 0,.int .i64 s.n] wa (((w8.setCell ⟨gs,0,none⟩ (.int .i64 8)).setCell ⟨gs,2,none⟩ (.string (strV x))).setCell ⟨gs,6,none⟩ (.slice Ar r.1.length cr)):=(((V8.out.store 0 (.int .i64 8)).store 2 (.string (strV x))).store 6 (.slice Ar r.1.length cr))
          obtain⟨w9,hw9⟩:∃ww,ww=(((w8.setCell ⟨gs,0,none⟩ (.int .i64 8)).setCell ⟨gs,2,none⟩ (.string (strV x))).setCell ⟨gs,6,none⟩ (.slice Ar r.1.length cr)):=⟨_,rfl⟩;rw[←hw9]at V9;replace V9:=zi V9;have Tr_9:=(((Tr.out.st hlow 0 (.int .i64 8)).st hlow 2 (.string (strV x))).st hlow 6 (.slice Ar r.1.length cr));rw[←hw9]at Tr_9;replace Tr_9:=zi Tr_9;go_wp2_with fail;rw[←hw9];clear hw9 fl fz f0 f2 f6;refine(want_from V9.out.mv [59] hs5.out.symm).mono ?_;rintro e w10 ⟨rfl,q,hW⟩;have V10:=zi (V9.out.call q);have Tr_10:=zi (Tr_9.out.pw hW hltz);clear q hW;obtain⟨fl,fz⟩:=V10.out.facts;have f0:w10.cell? ⟨gs,0,none⟩=some (.int .i64 8):=V10.out.fact 0 rfl;have f1:w10.cell? ⟨gs,1,none⟩=some (.string ⟨#[]⟩):=V10.out.fact 1 rfl;have f2:w10.cell? ⟨gs,2,none⟩=some (.string (strV x)):=V10.out.fact 2 rfl;have f3:w10.cell? ⟨gs,3,none⟩=some (.pointer none):=V10.out.fact 3 rfl;have f4:w10.cell? ⟨gs,4,none⟩=some (.pointer none):=V10.out.fact 4 rfl;have f5:w10.cell? ⟨gs,5,none⟩=some (.pointer none):=V10.out.fact 5 rfl;have f6:w10.cell? ⟨gs,6,none⟩=some (.slice Ar r.1.length cr):=V10.out.fact 6 rfl
          have f7:w10.cell? ⟨gs,7,none⟩=some (.slice none 0 0):=V10.out.fact 7 rfl;have f8:w10.cell? ⟨gs,8,none⟩=some (.slice none 0 0):=V10.out.fact 8 rfl;have f9:w10.cell? ⟨gs,9,none⟩=some (.int .i64 s.n):=V10.out.fact 9 rfl;have hgr1:Holds w10 gr 63 zero10:=V10.out.wr.holds hgr.out (by simp;omega);have g0:=hgr1.lt;have gz:=fun i=>hgr1.frozen i;have k0:w10.cell? ⟨gr,0,none⟩=some (.int .i64 0):=hgr1.cell 0;have k1:w10.cell? ⟨gr,1,none⟩=some (.string ⟨#[]⟩):=hgr1.cell 1;have k2:w10.cell? ⟨gr,2,none⟩=some (.string ⟨#[]⟩):=hgr1.cell 2;have k3:w10.cell? ⟨gr,3,none⟩=some (.pointer none):=hgr1.cell 3;have k4:w10.cell? ⟨gr,4,none⟩=some (.pointer none):=hgr1.cell 4;have k5:w10.cell? ⟨gr,5,none⟩=some (.pointer none):=hgr1.cell 5;have k6:w10.cell? ⟨gr,6,none⟩=some (.slice none 0 0):=hgr1.cell 6;have k7:w10.cell? ⟨gr,7,none⟩=some (.slice none 0 0):=hgr1.cell 7;have k8:w10.cell? ⟨gr,8,none⟩=some (.slice none 0 0):=hgr1.cell 8;have k9:w10.cell? ⟨gr,9,none⟩=some (.int .i64 0):=hgr1.cell 9;replace hgr1:=zi hgr1;go_wp2_with fail
          refine ret_cellS rfl rfl rfl (put10_holds hgr1.out _ _ _ _ _ _ _ _ _ _) Tryz.underlying63 Tryz.sStmt ?_;rw[hF.out];exact StPost.of (h:={hd0 s.n with k:=8,y:=x,args:=r.1}) V10.out ⟨ExAt.nil_ _ _,ExAt.nil_ _ _,CnAt.nil_ _ _,Tr_10.out,Nat.zero_le 4096,xl,(by decide:8≤12),hn1⟩ (SlAt.nil_ _ _) (SlAt.nil_ _ _) hz0 hba.out hgr0 hgs0 hgrl (put10_writes _ _ _ _ _ _ _ _ _ _ _ _)
         |false=>
          cases h5:isF C [91] s2 with
          |true=>
           obtain⟨r,hr⟩:∃yy,yy=sum C s2.next:=⟨_,rfl⟩;obtain⟨s3,hs3⟩:∃yy,yy=wantF C [93] r.2:=⟨_,rfl⟩;obtain⟨s4,hs4⟩:∃yy,yy=wantF C [61] s3:=⟨_,rfl⟩;obtain⟨q1,hq1⟩:∃yy,yy=sum C s4:=⟨_,rfl⟩;obtain⟨s5,hs5⟩:∃yy,yy=wantF C [59] q1.2:=⟨_,rfl⟩;have hF:Hid (R=(({hd0 s.n with k:=7,y:=x,e:=r.1,f:=q1.1},.nil,.nil),s5)):=zi (by rw[hR.out,hs5,hq1,hs4,hs3,hr];unfold stmtF plainF;simp only[hkf.out,hif,hwh,h1,h2,h3,←hs2,←hx,h4,h5];rfl)
           have hm2:m≤s2.next.deep:=by rw[hs2];simp only[PS.next];rw[(Stp.name _).dp];exact hm
           have hm4:m≤s4.deep:=by rw[hs4,(Stp.want _ _).dp,hs3,(Stp.want _ _).dp,hr,(hs C _).dp];exact hm2
           have hnf:Hid (nameF C s.one=(x,s2)):=zi (by rw[hx,hs2]);clear hx hs2;replace hr:=zi hr;replace hs3:=zi hs3;replace hs4:=zi hs4;replace hq1:=zi hq1;replace hs5:=zi hs5;replace h1:=zi h1;replace h2:=zi h2;replace hif:=zi hif;replace hwh:=zi hwh;replace h3:=zi h3;replace h4:=zi h4;replace h5:=zi h5;refine(take_no VN.out.mv [114,101,116,117,114,110] h1.out).mono ?_;rintro e w1 ⟨rfl,q,hW⟩;have V1:=zi (VN.out.call q);clear q hW;go_wp2_with fail;refine(take_no V1.out.mv [97,115,115,101,114,116] h2.out).mono ?_;rintro e w2 ⟨rfl,q,hW⟩;have V2:=zi (V1.out.call q);clear q hW;go_wp2_with fail;refine(is_from V2.out.mv [105,102] hif.out).mono ?_;rintro e w3 ⟨rfl,q,hW⟩;have V3:=zi (V2.out.call q);clear q hW;go_wp2_with fail;refine(is_from V3.out.mv [119,104,105,108,101] hwh.out).mono ?_;rintro e w4 ⟨rfl,q,hW⟩;have V4:=zi (V3.out.call q);clear q hW;go_wp2_with fail;refine(take_no V4.out.mv [42] h3.out).mono ?_;rintro e w5 ⟨rfl,q,hW⟩;have V5:=zi (V4.out.call q);clear q hW;go_wp2_with fail;refine(name_from V5.out.mv hnf.out).mono ?_;rintro e w6 ⟨rfl,q,xl,hW⟩
           have V6:=zi (V5.out.call q);clear q hW;go_wp2_with fail;refine(take_no V6.out.mv [40] h4.out).mono ?_;rintro e w7 ⟨rfl,q,hW⟩;have V7:=zi (V6.out.call q);clear q hW;go_wp2_with fail;refine(take_yes V7.out.mv [91] h5.out rfl).mono ?_;rintro e w8 ⟨rfl,q,hW⟩;have V8:=zi (V7.out.call q);clear q hW;go_wp2_with fail;refine(hsum.near V8.out.mv hm2 hr.out.symm).mono ?_;rintro e w9 ⟨pr,rfl,q,hE,hW⟩;have V9:=zi (V8.out.call q);have Tr:=zi (hE.ge (B:=wa.heap.size) V8.out.wr.size);clear q hW hE;obtain⟨fl,fz⟩:=V9.out.facts;have f0:w9.cell? ⟨gs,0,none⟩=some (.int .i64 0):=V9.out.fact 0 rfl;have f2:w9.cell? ⟨gs,2,none⟩=some (.string ⟨#[]⟩):=V9.out.fact 2 rfl;have f3:w9.cell? ⟨gs,3,none⟩=some (.pointer none):=V9.out.fact 3 rfl;have V10:VS C Z gs (r.2) #[.int .i64 7,.string ⟨#[]⟩,.string (strV x),.pointer pr,.pointer none,.pointer none,.slice none 0 0,.slice none 0 0,.slice none 0 0,.int .i64 s.n] wa (((w9.setCell ⟨gs,0,none⟩ (.int .i64 7)).setCell ⟨gs,2,none⟩ (.string (strV x))).setCell ⟨gs,3,none⟩ (.pointer pr)):=(((V9.out.store 0 (.int .i64 7)).store 2 (.string (strV x))).store 3 (.pointer pr))
           obtain⟨w10,hw10⟩:∃ww,ww=(((w9.setCell ⟨gs,0,none⟩ (.int .i64 7)).setCell ⟨gs,2,none⟩ (.string (strV x))).setCell ⟨gs,3,none⟩ (.pointer pr)):=⟨_,rfl⟩;rw[←hw10]at V10;replace V10:=zi V10;have Tr_10:=(((Tr.out.st hlow 0 (.int .i64 7)).st hlow 2 (.string (strV x))).st hlow 3 (.pointer pr));rw[←hw10]at Tr_10;replace Tr_10:=zi Tr_10;go_wp2_with fail;rw[←hw10];clear hw10 fl fz f0 f2 f3;refine(want_from V10.out.mv [93] hs3.out.symm).mono ?_;rintro e w11 ⟨rfl,q,hW⟩;have V11:=zi (V10.out.call q);have Tr_11:=zi (Tr_10.out.pw hW hltz);clear q hW;go_wp2_with fail;refine(want_from V11.out.mv [61] hs4.out.symm).mono ?_;rintro e w12 ⟨rfl,q,hW⟩;have V12:=zi (V11.out.call q);have Tr_12:=zi (Tr_11.out.pw hW hltz);clear q hW;go_wp2_with fail;refine(hsum.near V12.out.mv hm4 hq1.out.symm).mono ?_;rintro e w13 ⟨pq1,rfl,q,hE,hW⟩;have V13:=zi (V12.out.call q);have Tr_13:=zi (Tr_12.out.pw hW hltz);have Tq1:=zi (hE.ge (B:=wa.heap.size) V12.out.wr.size);clear q hW hE;obtain⟨fl,fz⟩:=V13.out.facts;have f4:w13.cell? ⟨gs,4,none⟩=some (.pointer none):=V13.out.fact 4 rfl
           have V14:VS C Z gs (q1.2) #[.int .i64 7,.string ⟨#[]⟩,.string (strV x),.pointer pr,.pointer pq1,.pointer none,.slice none 0 0,.slice none 0 0,.slice none 0 0,.int .i64 s.n] wa (w13.setCell ⟨gs,4,none⟩ (.pointer pq1)):=(V13.out.store 4 (.pointer pq1));obtain⟨w14,hw14⟩:∃ww,ww=(w13.setCell ⟨gs,4,none⟩ (.pointer pq1)):=⟨_,rfl⟩;rw[←hw14]at V14;replace V14:=zi V14;have Tr_14:=(Tr_13.out.st hlow 4 (.pointer pq1));rw[←hw14]at Tr_14;replace Tr_14:=zi Tr_14;have Tq1_14:=(Tq1.out.st hlow 4 (.pointer pq1));rw[←hw14]at Tq1_14;replace Tq1_14:=zi Tq1_14;go_wp2_with fail;rw[←hw14];clear hw14 fl fz f4;refine(want_from V14.out.mv [59] hs5.out.symm).mono ?_;rintro e w15 ⟨rfl,q,hW⟩;have V15:=zi (V14.out.call q);have Tr_15:=zi (Tr_14.out.pw hW hltz);have Tq1_15:=zi (Tq1_14.out.pw hW hltz);clear q hW;obtain⟨fl,fz⟩:=V15.out.facts;have f0:w15.cell? ⟨gs,0,none⟩=some (.int .i64 7):=V15.out.fact 0 rfl;have f1:w15.cell? ⟨gs,1,none⟩=some (.string ⟨#[]⟩):=V15.out.fact 1 rfl;have f2:w15.cell? ⟨gs,2,none⟩=some (.string (strV x)):=V15.out.fact 2 rfl
           have f3:w15.cell? ⟨gs,3,none⟩=some (.pointer pr):=V15.out.fact 3 rfl;have f4:w15.cell? ⟨gs,4,none⟩=some (.pointer pq1):=V15.out.fact 4 rfl;have f5:w15.cell? ⟨gs,5,none⟩=some (.pointer none):=V15.out.fact 5 rfl;have f6:w15.cell? ⟨gs,6,none⟩=some (.slice none 0 0):=V15.out.fact 6 rfl;have f7:w15.cell? ⟨gs,7,none⟩=some (.slice none 0 0):=V15.out.fact 7 rfl;have f8:w15.cell? ⟨gs,8,none⟩=some (.slice none 0 0):=V15.out.fact 8 rfl;have f9:w15.cell? ⟨gs,9,none⟩=some (.int .i64 s.n):=V15.out.fact 9 rfl;have hgr1:Holds w15 gr 63 zero10:=V15.out.wr.holds hgr.out (by simp;omega);have g0:=hgr1.lt;have gz:=fun i=>hgr1.frozen i;have k0:w15.cell? ⟨gr,0,none⟩=some (.int .i64 0):=hgr1.cell 0;have k1:w15.cell? ⟨gr,1,none⟩=some (.string ⟨#[]⟩):=hgr1.cell 1;have k2:w15.cell? ⟨gr,2,none⟩=some (.string ⟨#[]⟩):=hgr1.cell 2;have k3:w15.cell? ⟨gr,3,none⟩=some (.pointer none):=hgr1.cell 3;have k4:w15.cell? ⟨gr,4,none⟩=some (.pointer none):=hgr1.cell 4;have k5:w15.cell? ⟨gr,5,none⟩=some (.pointer none):=hgr1.cell 5;have k6:w15.cell? ⟨gr,6,none⟩=some (.slice none 0 0):=hgr1.cell 6
           have k7:w15.cell? ⟨gr,7,none⟩=some (.slice none 0 0):=hgr1.cell 7;have k8:w15.cell? ⟨gr,8,none⟩=some (.slice none 0 0):=hgr1.cell 8;have k9:w15.cell? ⟨gr,9,none⟩=some (.int .i64 0):=hgr1.cell 9;replace hgr1:=zi hgr1;go_wp2_with fail;refine ret_cellS rfl rfl rfl (put10_holds hgr1.out _ _ _ _ _ _ _ _ _ _) Tryz.underlying63 Tryz.sStmt ?_;rw[hF.out];exact StPost.of (h:={hd0 s.n with k:=7,y:=x,e:=r.1,f:=q1.1}) V15.out ⟨Tr_15.out,Tq1_15.out,CnAt.nil_ _ _,AgsAt.nil_ _ _,Nat.zero_le 4096,xl,(by decide:7≤12),hn1⟩ (SlAt.nil_ _ _) (SlAt.nil_ _ _) hz0 hba.out hgr0 hgs0 hgrl (put10_writes _ _ _ _ _ _ _ _ _ _ _ _)
          |false=>
           obtain⟨s3,hs3⟩:∃yy,yy=wantF C [61] s2:=⟨_,rfl⟩;obtain⟨r,hr⟩:∃yy,yy=valueF C (sum C) (hdx s.n x) s3:=⟨_,rfl⟩;obtain⟨s5,hs5⟩:∃yy,yy=wantF C [59] r.2:=⟨_,rfl⟩;have hF:Hid (R=((r.1,.nil,.nil),s5)):=zi (by rw[hR.out,hs5,hr,hs3];unfold stmtF plainF;simp only[hdx,hkf.out,hif,hwh,h1,h2,h3,←hs2,←hx,h4,h5];rfl)
           have hm3:m≤s3.deep:=by rw[hs3,(Stp.want _ _).dp,hs2,(Stp.name _).dp];exact hm
           have hnf:Hid (nameF C s.one=(x,s2)):=zi (by rw[hx,hs2]);clear hx hs2;replace hs3:=zi hs3;replace hr:=zi hr;replace hs5:=zi hs5;replace h1:=zi h1;replace h2:=zi h2;replace hif:=zi hif;replace hwh:=zi hwh;replace h3:=zi h3;replace h4:=zi h4;replace h5:=zi h5;refine(take_no VN.out.mv [114,101,116,117,114,110] h1.out).mono ?_;rintro e w1 ⟨rfl,q,hW⟩;have V1:=zi (VN.out.call q);clear q hW;go_wp2_with fail;refine(take_no V1.out.mv [97,115,115,101,114,116] h2.out).mono ?_;rintro e w2 ⟨rfl,q,hW⟩;have V2:=zi (V1.out.call q);clear q hW;go_wp2_with fail;refine(is_from V2.out.mv [105,102] hif.out).mono ?_;rintro e w3 ⟨rfl,q,hW⟩;have V3:=zi (V2.out.call q);clear q hW;go_wp2_with fail;refine(is_from V3.out.mv [119,104,105,108,101] hwh.out).mono ?_;rintro e w4 ⟨rfl,q,hW⟩;have V4:=zi (V3.out.call q);clear q hW;go_wp2_with fail;refine(take_no V4.out.mv [42] h3.out).mono ?_;rintro e w5 ⟨rfl,q,hW⟩;have V5:=zi (V4.out.call q);clear q hW;go_wp2_with fail;refine(name_from V5.out.mv hnf.out).mono ?_;rintro e w6 ⟨rfl,q,xl,hW⟩;have V6:=zi (V5.out.call q);clear q hW;go_wp2_with fail
           refine(take_no V6.out.mv [40] h4.out).mono ?_;rintro e w7 ⟨rfl,q,hW⟩;have V7:=zi (V6.out.call q);clear q hW;go_wp2_with fail;refine(take_no V7.out.mv [91] h5.out).mono ?_;rintro e w8 ⟨rfl,q,hW⟩;have V8:=zi (V7.out.call q);clear q hW;go_wp2_with fail;refine(want_from V8.out.mv [61] hs3.out.symm).mono ?_;rintro e w9 ⟨rfl,q,hW⟩;have V9:=zi (V8.out.call q);clear q hW;obtain⟨fl,fz⟩:=V9.out.facts;have f1:w9.cell? ⟨gs,1,none⟩=some (.string ⟨#[]⟩):=V9.out.fact 1 rfl;have V10:VS C Z gs (s3) #[.int .i64 0,.string (strV x),.string ⟨#[]⟩,.pointer none,.pointer none,.pointer none,.slice none 0 0,.slice none 0 0,.slice none 0 0,.int .i64 s.n] wa (w9.setCell ⟨gs,1,none⟩ (.string (strV x))):=(V9.out.store 1 (.string (strV x)));obtain⟨w10,hw10⟩:∃ww,ww=(w9.setCell ⟨gs,1,none⟩ (.string (strV x))):=⟨_,rfl⟩;rw[←hw10]at V10;replace V10:=zi V10;go_wp2_with fail;rw[←hw10];clear hw10 fl fz f1;have hcc:=value_step m sum hsum hs C Z w10 s3 gs s.n x ⟨V10.out.at_,Writes.refl _ _,V10.out.hold,V10.out.lt,V10.out.hold.lt⟩ hm3 xl (by omega);rw[←hr.out]at hcc;refine hcc.mono ?_;clear hcc;rintro e w11 ⟨rfl,ve,vf,vc,va,q,hE⟩
           have V11:VS C Z gs r.2 (r.1.cells ve vf vc va (.slice none 0 0) (.slice none 0 0)) wa w11:=⟨q.at_,V10.out.wr.trans q.wr,q.hold,q.lt,hlow⟩;have Tr:=hE.ge (B:=wa.heap.size) V10.out.wr.size;obtain⟨pe,ee⟩:=Tr.e.vp;obtain⟨pf,ef⟩:=Tr.f.vp;obtain⟨pc,ec⟩:=cnAt_vp Tr.c;obtain⟨Aa,ca,ea⟩:=agsAt_slice Tr.a;rw[ee,ef,ec,ea]at V11 Tr;replace V11:=zi V11;replace Tr:=zi Tr;clear q hE ee ef ec ea;go_wp2_with fail;refine(want_from V11.out.mv [59] hs5.out.symm).mono ?_;rintro e w12 ⟨rfl,q,hW⟩;have V12:=zi (V11.out.call q);have Tr_12:=zi (Tr.out.pw hW hltz);clear q hW;obtain⟨fl,fz⟩:=V12.out.facts;have f0:w12.cell? ⟨gs,0,none⟩=some (.int .i64 r.1.k):=V12.out.fact 0 rfl;have f1:w12.cell? ⟨gs,1,none⟩=some (.string (strV r.1.x)):=V12.out.fact 1 rfl;have f2:w12.cell? ⟨gs,2,none⟩=some (.string (strV r.1.y)):=V12.out.fact 2 rfl;have f3:w12.cell? ⟨gs,3,none⟩=some (.pointer pe):=V12.out.fact 3 rfl;have f4:w12.cell? ⟨gs,4,none⟩=some (.pointer pf):=V12.out.fact 4 rfl;have f5:w12.cell? ⟨gs,5,none⟩=some (.pointer pc):=V12.out.fact 5 rfl
           have f6:w12.cell? ⟨gs,6,none⟩=some (.slice Aa r.1.args.length ca):=V12.out.fact 6 rfl;have f7:w12.cell? ⟨gs,7,none⟩=some (.slice none 0 0):=V12.out.fact 7 rfl;have f8:w12.cell? ⟨gs,8,none⟩=some (.slice none 0 0):=V12.out.fact 8 rfl;have f9:w12.cell? ⟨gs,9,none⟩=some (.int .i64 r.1.at_):=V12.out.fact 9 rfl;have hgr1:Holds w12 gr 63 zero10:=V12.out.wr.holds hgr.out (by simp;omega);have g0:=hgr1.lt;have gz:=fun i=>hgr1.frozen i;have k0:w12.cell? ⟨gr,0,none⟩=some (.int .i64 0):=hgr1.cell 0;have k1:w12.cell? ⟨gr,1,none⟩=some (.string ⟨#[]⟩):=hgr1.cell 1;have k2:w12.cell? ⟨gr,2,none⟩=some (.string ⟨#[]⟩):=hgr1.cell 2;have k3:w12.cell? ⟨gr,3,none⟩=some (.pointer none):=hgr1.cell 3;have k4:w12.cell? ⟨gr,4,none⟩=some (.pointer none):=hgr1.cell 4;have k5:w12.cell? ⟨gr,5,none⟩=some (.pointer none):=hgr1.cell 5;have k6:w12.cell? ⟨gr,6,none⟩=some (.slice none 0 0):=hgr1.cell 6;have k7:w12.cell? ⟨gr,7,none⟩=some (.slice none 0 0):=hgr1.cell 7;have k8:w12.cell? ⟨gr,8,none⟩=some (.slice none 0 0):=hgr1.cell 8;have k9:w12.cell? ⟨gr,9,none⟩=some (.int .i64 0):=hgr1.cell 9
           replace hgr1:=zi hgr1;go_wp2_with fail;refine ret_cellS rfl rfl rfl (put10_holds hgr1.out _ _ _ _ _ _ _ _ _ _) Tryz.underlying63 Tryz.sStmt ?_;rw[hF.out];exact StPost.of (h:=r.1) V12.out Tr_12.out (SlAt.nil_ _ _) (SlAt.nil_ _ _) hz0 hba.out hgr0 hgs0 hgrl (put10_writes _ _ _ _ _ _ _ _ _ _ _ _)
theorem stmtF_next {C:PC} {sum:PS→Ex×PS} {cond:PS→Cn×PS} {block:PS→Sl×PS} (hs:∀s,Stp C s (sum s).2) (hc:∀s,Stp C s (cond s).2) (hb:∀s,Stp C s (block s).2) (s:PS) (he:(stmtF C sum cond block s).2.e=0):s.i+1≤(stmtF C sum cond block s).2.i:=by
 unfold stmtF at he⊢;split at he
 ·exact absurd he (failF_e 53 (by decide) s)
 ·rename_i hk;rw[if_neg hk];split at he
  ·rename_i h1;rw[if_pos h1];have h2:=(((Stp.want (C:=C) [40] s.one.next).trans (hc _)).trans (Stp.want [41] _)).trans (hb _);have i1:s.one.next.i=s.i+1:=rfl;split at he
   ·rename_i h3;rw[if_pos h3];have:=((h2.trans (Stp.is_ h3)).trans (hb _)).i1;simp only[testF]at this⊢;omega
   ·rename_i h3;rw[if_neg h3];have:=h2.i1;simp only[testF]at this⊢;omega
  ·rename_i h1;rw[if_neg h1];split at he
   ·rename_i h2;rw[if_pos h2];have h3:=((((Stp.want (C:=C) [40] s.one.next).trans (hc _)).trans (Stp.want [41] _)).trans (hb _)).i1;have i1:s.one.next.i=s.i+1:=rfl;simp only[testF]at h3⊢;omega
   ·rename_i h2;rw[if_neg h2];have h3:=(plainF_stp hs hc s.n s.one).i1;have h4:=want_next he;have i1:s.one.i=s.i:=rfl;simp only at h4⊢;omega
theorem ReadsS.vac (f:Nat) (F:PC→PS→Sl×PS):ReadsS f 41 F:=fun C L w s hP hm _=>absurd hP.ok.deep (by omega)
theorem block_step (m:Nat) (stmts:PC→PS→Sl×PS) (hst:ReadsS 36 (m+1) stmts) (hs:∀C s,Stp C s (stmts C s).2):ReadsS 132 m (fun C=>blockF C (stmts C)):=by
 intro C Z w s hP hm hf;have hM:=zi (Moved.refl hP);have hlt0:=hP.lt;obtain⟨b1,b2,b3,b4,b5,b6,b7⟩:=hP.bounds;show Calls _ _ _ _ (SlPost C Z (blockF C (stmts C) s) w);obtain⟨R,hR⟩:∃x,x=blockF C (stmts C) s:=⟨_,rfl⟩;rw[←hR];clear hP
 cases h1:isF C [123] s with
 |false=>
  have hF:Hid (R=(.nil,failF C 51 s)):=zi (by rw[hR];unfold blockF;rw[h1];rfl);replace h1:=zi h1;clear hR;go_enter Tryz.func132,Tryz.ntmps132;go_wp2_with fail;refine(is_from hM.out [123] h1.out).mono ?_;rintro e w1 ⟨rfl,q1,-⟩;replace q1:=zi q1;go_wp2_with fail;refine(fail_from q1.out 51 (by decide) rfl).mono ?_;rintro e w2 ⟨rfl,q2,-⟩;replace q2:=zi q2;go_wp2_with fail;go_ret;rw[hF.out];exact⟨_,rfl,q2.out,SlAt.nil_ _ _⟩
 |true=>
  cases ho:(openF C s).1 with
  |false=>
   have hF:Hid (R=(.nil,(openF C s).2)):=zi (by rw[hR];unfold blockF;simp only[h1,ho];rfl);have ho':=zi (pair_of ho);replace h1:=zi h1;clear hR ho;go_enter Tryz.func132,Tryz.ntmps132;go_wp2_with fail;refine(is_from hM.out [123] h1.out).mono ?_;rintro e w1 ⟨rfl,q1,-⟩;replace q1:=zi q1;go_wp2_with fail;refine(open_from q1.out ho'.out).mono ?_;rintro e w2 ⟨rfl,q2,-⟩;replace q2:=zi q2;go_wp2_with fail;go_ret;rw[hF.out];exact⟨_,rfl,q2.out,SlAt.nil_ _ _⟩
  |true=>
   obtain⟨e1,_,hlt⟩:=openF_true ho;have hi:=isF_lt h1;obtain⟨s2,hs2⟩:∃x,x=(openF C s).2:=⟨_,rfl⟩;obtain⟨r,hr⟩:∃x,x=stmts C s2.next:=⟨_,rfl⟩;have hF:Hid (R=(r.1,r.2.shut)):=zi (by rw[hR,hr,hs2];unfold blockF;simp only[h1,ho];rfl);have ho':Hid (openF C s=(true,s2)):=zi (by rw[hs2];exact pair_of ho)
   have hi3:s2.i<C.tk.length:=by rw[hs2,e1];exact hi
   have hdp:m+1≤s2.next.deep:=by rw[hs2,e1];simp only[PS.next];omega
   have hd1:1≤r.2.deep:=by rw[hr,(hs C s2.next).dp];omega
   have hf2:Hid (s2.next.Few):=zi (by rw[hs2,e1];exact hf);replace hr:=zi hr;replace h1:=zi h1;clear hR ho e1 hs2 hf;go_enter Tryz.func132,Tryz.ntmps132;go_wp2_with fail;refine(is_from hM.out [123] h1.out).mono ?_;rintro e w1 ⟨rfl,q1,-⟩;replace q1:=zi q1;go_wp2_with fail;refine(open_from q1.out ho'.out).mono ?_;rintro e w2 ⟨rfl,q2,-⟩;obtain⟨a0,d0,d1,d2,d3,d4,d5,d6,dfz⟩:=q2.facts;have hi5:=q2.at_.bounds.2.2.1;replace q2:=zi q2;have hw1:=i64_next (i:=s2.i) (by omega);have hcc:=hst C Z _ s2.next (q2.out.next hi3).at_ hdp hf2.out;rw[←hr.out]at hcc;replace hcc:=zi hcc;go_wp2_with fail;refine hcc.out.mono ?_;clear hcc;rintro e w3 ⟨v,rfl,q3,hE⟩;clear a0 d0 d1 d2 d3 d4 d5 d6 dfz hw1 hi5;have h3:=(q2.out.next hi3).trans q3;have hE3:=hE.ge (B:=w.heap.size) (q2.out.next hi3).wr.size;obtain⟨c1,c2,c3,c4,c5,c6,c7⟩:=h3.bounds;obtain⟨a0,d0,d1,d2,d3,d4,d5,d6,dfz⟩:=h3.facts;replace h3:=zi h3;replace hE3:=zi hE3;clear q3 hE q2 q1;have hw1:=i64_pred hd1 (by omega);go_wp2_with fail;go_ret;rw[hF.out]
   have hst':Writes [some Z.g] w3 (w3.setCell ⟨Z.g,5,none⟩ (.int .i64 ((r.2.deep:Int)-1))):=Writes.store w3 (by simp) _;exact⟨_,rfl,h3.out.shut hd1,hE3.out.pw hst' hlt0⟩
structure StmtsL (C:PC) (L:PL) (stmt:PS→(Hd×Sl×Sl)×PS) (m:Nat) (R:Sl×PS) (f:Nat) (l:Sl) (s:PS) (v:Value) (w0 w:World):Prop where
 eq:stmtsL C stmt f l s=R
 fuel:s.e=0→C.tk.length<s.i+f∧l.len≤s.i
 len:l.len≤5000
 dp:m≤s.deep
 few:s.Few
 mv:Moved C L s w0 w
 own:∃vs,w.ownsRow w0.heap.size 63 10 v l.len vs∧SlCells w (GeBut w0.heap.size v) l vs
theorem SlAt.own {w:World} {base:Nat} {l:Sl} {vs:List Value} {v:Value} (h:w.ownsRow base 63 10 v l.len vs) (h2:SlCells w (GeBut base v) l vs) (hl:l.len≤100000):SlAt w (Ge base) l v:=by
 obtain⟨A,c,e,hr,hc⟩:=RowS.own (S:=Ge base) h (fun g hg=>ownK_ge h hg);exact⟨A,c,vs,e,hl,hc,hr,h2.mono fun x _ hx=>hx.1⟩
theorem SlCells.pw {w w':World} {base g:Nat} {v:Value} {l:Sl} {vs:List Value} (h:SlCells w (GeBut base v) l vs) (hW:Writes [some g] w w') (hg:g<base):SlCells w' (GeBut base v) l vs:=
 h.keep fun x hx hS=>hW.block x hx fun e=>by simp at e;subst e;exact absurd hS.1 (Nat.not_le_of_lt hg)
theorem SlCells.push {w2 w3 w4:World} {base:Nat} {v v':Value} {l:Sl} {vs:List Value} {h:Hd} {t e:Sl} {ve vf vc va vt vl:Value} (hl:SlCells w2 (GeBut base v) l vs) (hh:HdAt w2 (GeBut base v) h ve vf vc va) (ht:SlAt w2 (GeBut base v) t vt) (he:SlAt w2 (GeBut base v) e vl)
  (hb:Below w2.heap.size w2 w3) (hg:w3.grownBy w4 v.ownBlock) (hv:v'.ownBlock=v.ownBlock∨v'.ownBlock=some w3.heap.size):SlCells w4 (GeBut base v') (l.snoc h t e) (vs++(h.cells ve vf vc va vt vl).toList):=by
 have h3:SlCells w3 (GeBut base v) (l.snoc h t e) (vs++(h.cells ve vf vc va vt vl).toList):=(hl.snoc hh ht he).keep fun x hx _=>hb.block x hx;have h5:SlCells w3 (fun x=>GeBut base v x∧GeBut base v' x) (l.snoc h t e) (vs++(h.cells ve vf vc va vt vl).toList):=h3.mono fun x hx hS=>⟨hS,GeBut.step hv x hx hS⟩;have h6:SlCells w4 (fun x=>GeBut base v x∧GeBut base v' x) (l.snoc h t e) (vs++(h.cells ve vf vc va vt vl).toList):=h5.keep fun x hx hS=>hg.block x hx fun e=>hS.1.2 e.symm;exact h6.mono fun _ _ hS=>hS.2
section
variable {C:PC} {L:PL} {stmt:PS→(Hd×Sl×Sl)×PS} {m:Nat} {R:Sl×PS} {f:Nat} {l:Sl} {s:PS} {v:Value} {w0 w:World}
theorem StmtsL.stop (h:StmtsL C L stmt m R f l s v w0 w) (hs:s.e≠0):R=(l,s):=by
 rw[←h.eq]
 cases f with
 |zero=>rfl
 |succ f=>unfold stmtsL;rw[if_pos hs]
theorem StmtsL.go_ (h:StmtsL C L stmt m R f l s v w0 w) (he:s.e=0) (hi:s.i≤C.tk.length):
  ∃f',f=f'+1∧R=if isF C [125] s then(l,s.next)else if C.tk.length≤s.i then(.nil,failF C 51 s)else stmtsL C stmt f' (l.snoc (stmt s).1.1 (stmt s).1.2.1 (stmt s).1.2.2) (stmt s).2:=by
 have hf:=(h.fuel he).1
 cases f with
 |zero=>omega
 |succ f=>
  refine⟨f,rfl,?_⟩;rw[←h.eq]
  conv=>lhs;unfold stmtsL
  rw[if_neg (by omega)]
end
theorem Tryz.infoStmt:(Tryz.prog.info? 63).map (fun i=>(i.zero,i.size,i.bytes))=some (some (.agg #[.int .i64 0,.string ⟨#[]⟩,.string ⟨#[]⟩,.pointer none,.pointer none,.pointer none,.slice none 0 0,.slice none 0 0,.slice none 0 0,.int .i64 0]),10,144):=by kernel_rfl
def ReadsT (f:Nat) (m:Nat) (F:PC→PS→(Hd×Sl×Sl)×PS):Prop:=∀(C:PC) (L:PL) (w:World) (s:PS),PAt C L s w→m≤s.deep→s.n≤200→Calls Tryz.prog f #[.pointer (some ⟨L.g,0,none⟩)] w (StPost C L (F C s) w)
theorem stmts_step (m:Nat) (stmt:PC→PS→(Hd×Sl×Sl)×PS) (hst:ReadsT 81 m stmt) (hs:∀C s,s.e=0→Stp C s (stmt C s).2) (hnx:∀C s,(stmt C s).2.e=0→s.i+1≤(stmt C s).2.i):ReadsS 36 m (fun C=>stmtsF C (stmt C)):=by
 intro C L w s hP hm hfew;obtain⟨iA,hiA,hzA0,hzA1,hzA2⟩:=info_parts Tryz.infoStmt;have hM:=zi (Moved.refl hP);have hlt0:=hP.lt;have hlen:=hP.fit.len;show Calls _ _ _ _ (SlPost C L (stmtsF C (stmt C) s) w);obtain⟨R,hR⟩:∃x,x=stmtsF C (stmt C) s:=⟨_,rfl⟩;rw[←hR];have hL1:Hid (StmtsL C L (stmt C) m R (C.tk.length+1) .nil s (.slice none 0 0) w w):=zi ⟨hR.symm,fun _=>⟨by omega,Nat.zero_le _⟩,Nat.zero_le _,hm,hfew,hM.out,[],⟨rfl,.inl ⟨rfl,rfl⟩⟩,rfl⟩;clear hR hP hfew;go_enter Tryz.func36,Tryz.ntmps36;go_wp2_with fail;go_loopw [3] (fun av wr=>∃(f:Nat) (l:Sl) (t:PS),Hid (StmtsL C L (stmt C) m R f l t av w wr)) (fun _ wr=>left2 L wr)
 case atStart=>exact⟨_,_,_,hL1⟩
 clear hL1;obtain⟨f,l,t,hL⟩:=hrel;rename World=>wl;obtain⟨a0,d0,d1,d2,d3,d4,d5,d6,dfz⟩:=hL.out.mv.facts;obtain⟨b1,b2,b3,b4,b5,b6,b7⟩:=hL.out.mv.bounds;have hll:=hL.out.len;by_cases he:t.e=0
 case neg=>
  have he':((t.e:Int)==0)=false:=by simp;omega
  have hF:=zi (hL.out.stop he);obtain⟨vs,hown,hcells⟩:=hL.out.own;replace hown:=zi hown;replace hcells:=zi hcells;go_wp2_with fail;go_ret;rw[hF.out];exact⟨_,rfl,hL.out.mv,SlAt.own hown.out hcells.out (Nat.le_trans hll (by decide))⟩
 have he':((t.e:Int)==0)=true:=by simp;omega
 obtain⟨f',hff,hRR⟩:=hL.out.go_ he b3;have hfu:=hL.out.fuel he;have hst0:=zi (hs C t he);have ht200:=hL.out.few.2 he;have he0:=zi he;obtain⟨vs,hown,hcells⟩:=hL.out.own;replace hown:=zi hown;replace hcells:=zi hcells;clear he
 cases h1:isF C [125] t with
 |true=>
  have hF:Hid (R=(l,t.next)):=zi (by rw[hRR,if_pos h1]);replace h1:=zi h1;clear hRR;go_wp2_with fail;refine(take_yes hL.out.mv [125] h1.out rfl).mono ?_;rintro e w2 ⟨rfl,q2,hW2⟩;have hO2:=zi (own_pw hown.out hW2 hlt0);have hC2:=zi (hcells.out.pw hW2 hlt0);replace q2:=zi q2;clear hW2 a0 d0 d1 d2 d3 d4 d5 d6 dfz;go_wp2_with fail;go_ret;rw[hF.out];exact⟨_,rfl,q2.out,SlAt.own hO2.out hC2.out (Nat.le_trans hll (by decide))⟩
 |false=>
  rw[if_neg (by rw[h1];simp)]at hRR;replace h1:=zi h1;replace hRR:=zi hRR;go_wp2_with fail;refine(take_no hL.out.mv [125] h1.out).mono ?_;rintro e w2 ⟨rfl,q2,hW2⟩;have hO2:=zi (own_pw hown.out hW2 hlt0);have hC2:=zi (hcells.out.pw hW2 hlt0);clear hW2 a0 d0 d1 d2 d3 d4 d5 d6 dfz;obtain⟨a0,d0,d1,d2,d3,d4,d5,d6,dfz⟩:=q2.facts;replace q2:=zi q2;by_cases hi:C.tk.length≤t.i
  ·have hi2:decide (C.tk.length≤t.i)=true:=by simpa using hi
   have hF:Hid (R=(.nil,failF C 51 t)):=zi (by rw[hRR.out,if_pos hi]);go_wp2_with fail;go_quiet (fail);go_wp2_with fail;refine(fail_from (q2.out.below (below_drewN (Below.refl _ _) _)) 51 (by decide) rfl).mono ?_;rintro e w3 ⟨rfl,q3,-⟩;replace q3:=zi q3;clear a0 d0 d1 d2 d3 d4 d5 d6 dfz;go_wp2_with fail;go_ret;rw[hF.out];exact⟨_,rfl,q3.out,SlAt.nil_ _ _⟩
  ·have hi2:decide (C.tk.length≤t.i)=false:=by simpa using hi
   obtain⟨r,hr⟩:∃x,x=stmt C t:=⟨_,rfl⟩;have hnx0:=hnx C t;rw[←hr]at hnx0;have hstr:Hid (Stp C t r.2):=zi (by rw[hr];exact hst0.out);have hRS:Hid (R=stmtsL C (stmt C) f' (l.snoc r.1.1 r.1.2.1 r.1.2.2) r.2):=zi (by rw[hRR.out,if_neg hi,hr]);replace hr:=zi hr;replace hnx0:=zi hnx0;clear hRR hst0;go_wp2_with fail;go_quiet (fail);have q3:=q2.out.below (below_drewN (Below.refl _ w2) nq);have hO3:=own_below hO2.out (below_drewN (Below.refl _ w2) nq);have hC3:=SlCells.keep (w:=w2) (w':=w2.drewN nq) (fun x hx _=>rfl) hC2.out;obtain⟨w3,hw3⟩:∃x,x=w2.drewN nq:=⟨_,rfl⟩;rw[←hw3]at q3 hO3 hC3⊢;clear hw3 a0 d0 d1 d2 d3 d4 d5 d6 dfz q2 hO2 hC2;replace q3:=zi q3;replace hO3:=zi hO3;replace hC3:=zi hC3;have hcc:=hst C L w3 t q3.out.at_ hL.out.dp ht200;rw[←hr.out]at hcc;replace hcc:=zi hcc;go_wp2_with fail;refine hcc.out.mono ?_;clear hcc;rintro e w4 ⟨ve,vf,vc,va,vt,vl,rfl,q4,hH,hT,hE⟩;have q5:=q3.out.trans q4;have hO4:=own_pw hO3.out q4.wr hlt0;have hC4:=hC3.out.pw q4.wr hlt0
   have hge:∀x,x<w4.heap.size→Ge w3.heap.size x→GeBut w.heap.size u3 x:=fun x _ hS=>⟨Nat.le_trans q3.out.wr.size hS,fun e=>by have:=hO3.out.lt x e;have:w3.heap.size≤x:=hS;omega⟩;have hH4:=hH.mono hge;have hT4:=hT.mono hge;have hE4:=hE.mono hge;obtain⟨pe,ee⟩:=hH4.e.vp;obtain⟨pf,ef⟩:=hH4.f.vp;obtain⟨pc,ec⟩:=cnAt_vp hH4.c;obtain⟨Aa,ca,ea⟩:=agsAt_slice hH4.a;obtain⟨At,ct,et⟩:=SlAt.slice_ hT4;obtain⟨Ae,ce,el⟩:=SlAt.slice_ hE4;rw[ee,ef,ec,ea]at hH4;rw[et]at hT4;rw[el]at hE4;rw[ee,ef,ec,ea,et,el];clear hH hT hE hge ee ef ec ea et el;have hbn:=below_new w4 (.cells #[.int .i64 r.1.1.k,.string (strV r.1.1.x),.string (strV r.1.1.y),.pointer pe,.pointer pf,.pointer pc,.slice Aa r.1.1.args.length ca,.slice At r.1.2.1.len ct,.slice Ae r.1.2.2.len ce,.int .i64 r.1.1.at_] 63);have hO5:=zi (own_below hO4 hbn)
   have hnews:Hid (∀(j:Nat) u,([.int .i64 r.1.1.k,.string (strV r.1.1.x),.string (strV r.1.1.y),.pointer pe,.pointer pf,.pointer pc,.slice Aa r.1.1.args.length ca,.slice At r.1.2.1.len ct,.slice Ae r.1.2.2.len ce,.int .i64 r.1.1.at_]:List Value)[j]? =some u→(w4.alloc (.cells #[.int .i64 r.1.1.k,.string (strV r.1.1.x),.string (strV r.1.1.y),.pointer pe,.pointer pf,.pointer pc,.slice Aa r.1.1.args.length ca,.slice At r.1.2.1.len ct,.slice Ae r.1.2.2.len ce,.int .i64 r.1.1.at_] 63)).cell? ((⟨w4.heap.size,0,none⟩:Addr).add j)=some u):=zi (fun j u hu=>by
    have hh:=Holds.new w4 63 #[.int .i64 r.1.1.k,.string (strV r.1.1.x),.string (strV r.1.1.y),.pointer pe,.pointer pf,.pointer pc,.slice Aa r.1.1.args.length ca,.slice At r.1.2.1.len ct,.slice Ae r.1.2.2.len ce,.int .i64 r.1.1.at_]
    have hadd:(⟨w4.heap.size,0,none⟩:Addr).add j=⟨w4.heap.size,j,none⟩:=by unfold Addr.add;split<;>simp_all
    rw[hadd,hh.cell]
    simpa using hu)
   have hone:Hid (∀u∈([.int .i64 r.1.1.k,.string (strV r.1.1.x),.string (strV r.1.1.y),.pointer pe,.pointer pf,.pointer pc,.slice Aa r.1.1.args.length ca,.slice At r.1.2.1.len ct,.slice Ae r.1.2.2.len ce,.int .i64 r.1.1.at_]:List Value),u.oneCell'=true):=zi (by simp;exact⟨rfl,rfl,rfl,rfl,rfl,rfl,rfl,rfl,rfl,rfl⟩);have hsz:Hid (w.heap.size≤(w4.alloc (.cells #[.int .i64 r.1.1.k,.string (strV r.1.1.x),.string (strV r.1.1.y),.pointer pe,.pointer pf,.pointer pc,.slice Aa r.1.1.args.length ca,.slice At r.1.2.1.len ct,.slice Ae r.1.2.2.len ce,.int .i64 r.1.1.at_] 63)).heap.size):=zi (Nat.le_trans q5.wr.size hbn.size);have q6:=zi (q5.below hbn);replace hbn:=zi hbn;replace hC4:=zi hC4;replace hH4:=zi hH4;replace hT4:=zi hT4;replace hE4:=zi hE4;have hl1:Hid ((l.snoc r.1.1 r.1.2.1 r.1.2.2).len=l.len+1):=zi (Sl.snoc_len _ _ _ _);have hfu2:=hfu.2;replace hfu:=zi hfu;clear q5 hO4 q4;unfold Hd.cells;go_wp2_with
    (at_builtin
     go_loud (refine wpList_append_own_at _ rfl (.tmp 26) (.tmp 29) 24 rfl w.heap.size 63 iA _ 10 144 rfl hiA hzA0 hzA1 hzA2 rfl (by omega) u3 l.len vs rfl hO5.out ⟨w4.heap.size,0,none⟩ 1 1 [.int .i64 r.1.1.k,.string (strV r.1.1.x),.string (strV r.1.1.y),.pointer pe,.pointer pf,.pointer pc,.slice Aa r.1.1.args.length ca,.slice At r.1.2.1.len ct,.slice Ae r.1.2.2.len ce,.int .i64 r.1.1.at_] rfl rfl hnews.out hone.out (by unfold maxLen;omega) (by omega) hsz.out ?_)
     go_loud (
      intro v5 w5 ho5 hg5 _ hv5;have hO7:Hid (w5.ownsRow w.heap.size 63 10 v5 (l.snoc r.1.1 r.1.2.1 r.1.2.2).len (vs++ [.int .i64 r.1.1.k,.string (strV r.1.1.x),.string (strV r.1.1.y),.pointer pe,.pointer pf,.pointer pc,.slice Aa r.1.1.args.length ca,.slice At r.1.2.1.len ct,.slice Ae r.1.2.2.len ce,.int .i64 r.1.1.at_])):=zi (own_len ho5 hl1.out.symm);have hC7:Hid (SlCells w5 (GeBut w.heap.size v5) (l.snoc r.1.1 r.1.2.1 r.1.2.2) (vs++ [.int .i64 r.1.1.k,.string (strV r.1.1.x),.string (strV r.1.1.y),.pointer pe,.pointer pf,.pointer pc,.slice Aa r.1.1.args.length ca,.slice At r.1.2.1.len ct,.slice Ae r.1.2.2.len ce,.int .i64 r.1.1.at_])):=zi (SlCells.push hC4.out hH4.out hT4.out hE4.out hbn.out hg5 hv5)
      have q7:Hid (Moved C L r.2 w w5):=zi ⟨q6.out.at_.writes (Writes.of_grown hg5 (M:= [u3.ownBlock]) (by simp)) (fun k hk=>by have:=ownK_ge hO5.out (List.mem_singleton.1 hk).symm;omega),by
       refine q6.out.wr.then_ (Writes.of_grown hg5 (M:= [u3.ownBlock]) (by simp)) (fun k hk hm=> ?_);have:=ownK_ge hO5.out (List.mem_singleton.1 hm).symm
       omega⟩
      clear ho5 hg5 hv5))
   have hfewr:r.2.Few:=hstr.out.nn hL.out.few
   have hL7:Hid (StmtsL C L (stmt C) m R f' (l.snoc r.1.1 r.1.2.1 r.1.2.2) r.2 v5 w w5):=
    zi ⟨hRS.out.symm,fun h=>by have:=hnx0.out h;have:=hfu.out.1;rw[hl1.out];omega,by rw[hl1.out];omega,by rw[hstr.out.dp];exact hL.out.dp,hfewr,q7.out,_,hO7.out,hC7.out⟩
   have hm1:=zi hL.out.mv.left2;have hm2:=zi hL7.out.mv.left2;have hb7:=hL7.out.mv.bounds.2.2.1;have hless:=zi (left2_less he0.out (Nat.le_trans hb7 hlen) hstr.out.i1 (fun h=>by have:=hnx0.out h;omega));exact⟨⟨_,_,_,hL7⟩,by rw[hm1.out,hm2.out];exact hless.out⟩
theorem ReadsT.of {m:Nat} {sum:PC→PS→Ex×PS} {cond:PC→PS→Cn×PS} {block:PC→PS→Sl×PS} (hsum:Reads6 130 m sum) (hcond:ReadsC 131 m cond) (hblock:ReadsS 132 m block)
  (hs:∀C s,Stp C s (sum C s).2) (hc:∀C s,Stp C s (cond C s).2) (hb:∀C s,Stp C s (block C s).2):ReadsT 81 m (fun C=>stmtF C (sum C) (cond C) (block C)):=
 fun C L w s hP hm hn=>stmt_step m sum cond block hsum hcond hblock hs hc hb C L w s hP hm hn
theorem stmts_all:∀d,d≤40→ReadsT 81 (40-d) (fun C=>stmtD C d)∧ReadsS 36 (40-d) (fun C=>stmtsD C d)
 |0,_=>by
  have hb:ReadsS 132 40 (fun C=>blockD C 0):=block_step 40 (fun _ s=>(.nil,s)) (ReadsS.vac _ _) (fun _ s=>Stp.refl s);have h1:ReadsT 81 40 (fun C=>stmtD C 0):=ReadsT.of (exprs_all 0 (by omega)).2.2 (conds_all 0 (by omega)).2.2 hb (fun C s=>sumD_stp 0 s) (fun C s=>condD_stp 0 s) (fun C s=>blockD_stp 0 s);exact⟨h1,stmts_step 40 (fun C=>stmtD C 0) h1 (fun C s he=>stmtD_stp 0 s he) (fun C s he=>stmtF_next (sumD_stp 0) (condD_stp 0) (blockD_stp 0) s he)⟩
 |d+1,hd=>by
  obtain⟨_,i2⟩:=stmts_all d (by omega)
  have e:40-d=40-(d+1)+1:=by omega
  rw[e]at i2;have hb:ReadsS 132 (40-(d+1)) (fun C=>blockD C (d+1)):=block_step _ (fun C=>stmtsD C d) i2 (fun C s=>stmtsD_stp d s);have h1:ReadsT 81 (40-(d+1)) (fun C=>stmtD C (d+1)):=ReadsT.of (exprs_all (d+1) hd).2.2 (conds_all (d+1) hd).2.2 hb (fun C s=>sumD_stp (d+1) s) (fun C s=>condD_stp (d+1) s) (fun C s=>blockD_stp (d+1) s);exact⟨h1,stmts_step _ (fun C=>stmtD C (d+1)) h1 (fun C s he=>stmtD_stp (d+1) s he) (fun C s he=>stmtF_next (sumD_stp (d+1)) (condD_stp (d+1)) (blockD_stp (d+1)) s he)⟩
def Vr.cells (v:Vr):List Value:= [.string (strV v.nm),.bool v.ptr]
theorem Tryz.infoVar:(Tryz.prog.info? 79).map (fun i=>(i.zero,i.size,i.bytes))=some (some (.agg #[.string ⟨#[]⟩,.bool false]),2,24):=by kernel_rfl
def MorePost (C:PC) (L:PL) (B:Nat) (v:Value) (r:List Vr×PS) (w:World) (e:Ending) (w':World):Prop:=
 ∃v',e= .returned v'∧PAt C L r.2 w'∧Writes [some L.g,v.ownBlock] w w'∧w'.ownsRow B 79 2 v' r.1.length (r.1.flatMap Vr.cells)∧(∀x∈r.1,x.nm.length≤4096)
theorem more_any {C:PC} {L:PL} (w:World) (s:PS) (hP:PAt C L s w) (B:Nat) (hB:L.g<B) (hBw:B≤w.heap.size) (v:Value) (l:List Vr) (hown:w.ownsRow B 79 2 v l.length (l.flatMap Vr.cells)) (hl:l.length≤5000) (hnm:∀x∈l,x.nm.length≤4096) (ptr:Bool) (most:Nat):
  Calls Tryz.prog 32 #[.pointer (some ⟨L.g,0,none⟩),v,.bool ptr,.int .i64 most] w (MorePost C L B v (moreV C l ptr most s) w):=by
 obtain⟨iA,hiA,hzA0,hzA1,hzA2⟩:=info_parts Tryz.infoVar;obtain⟨R,hR⟩:∃x,x=moreV C l ptr most s:=⟨_,rfl⟩;rw[←hR];have hlt0:=hP.lt;obtain⟨A,c,hv,_,_⟩:=RowS.own (S:=fun _=>True) hown (fun _ _=>trivial);have hM:=zi (Moved.refl hP);obtain⟨ln,hln⟩:∃x,x=l.length:=⟨_,rfl⟩;rw[←hln]at hv hl;obtain⟨x,hx⟩:∃x,x=(nameF C s).1:=⟨_,rfl⟩;obtain⟨s2,hs2⟩:∃x,x=(nameF C s).2:=⟨_,rfl⟩;have hnf:Hid (nameF C s=(x,s2)):=zi (by rw[hx,hs2]);replace hnm:=zi hnm;replace hown:=zi hown;replace hln:=zi hln;subst hv;clear hP
 have hgoal:∀(b:Bool),namedF C s=b→(b=true→ln<most)→Calls Tryz.prog 32 #[.pointer (some ⟨L.g,0,none⟩),.slice A ln c,.bool ptr,.int .i64 most] w (MorePost C L B (.slice A ln c) R w):=fun b hn hlm=>by
  have hF:Hid (R=(l++ [(⟨x,ptr⟩:Vr)],s2)):=zi (by
   rw[hR,hx,hs2];unfold moreV;rw[hn]
   cases b with
   |false=>rfl
   |true=>
    have:=hlm rfl;rw[hln.out]at this;rw[decide_eq_false (by omega)]
    rfl)
  replace hn:=zi hn;clear hR hx hs2;have hbn:=fun(w5:World)=>below_new w5 (.cells #[.string (strV x),.bool ptr] 79)
  have hlt2:b=true→(ln:Int)<(most:Int):=fun h=>by have:=hlm h;omega
  have hge2:b=true→decide (most≤ln)=false:=fun h=>by have:=hlm h;simp;omega
  go_enter Tryz.func32,Tryz.ntmps32;go_wp2_with fail;refine(named_from hM.out hn.out).mono ?_;rintro e w1 ⟨rfl,q1,hW1⟩;have hO1:=zi (own_pw hown.out hW1 hB);replace q1:=zi q1;clear hW1
  cases b with
  |true=>
   have hlt3:=hlt2 rfl;have hge3:=hge2 rfl;clear hlt2 hge2 hlm hbn;go_wp2_with fail;refine(name_from q1.out hnf.out).mono ?_;rintro e w2 ⟨rfl,q2,hxl,hW2⟩;have hO2:=own_pw hO1.out hW2 hB;have hbn:=below_new w2 (.cells #[.string (strV x),.bool ptr] 79);have hO3:=zi (own_below hO2 hbn)
   have hnews:Hid (∀(q:Nat) u,([.string (strV x),.bool ptr]:List Value)[q]? =some u→(w2.alloc (.cells #[.string (strV x),.bool ptr] 79)).cell? ((⟨w2.heap.size,0,none⟩:Addr).add q)=some u):=zi (fun q u hu=>by
    have hh:=Holds.new w2 79 #[.string (strV x),.bool ptr]
    have hadd:(⟨w2.heap.size,0,none⟩:Addr).add q=⟨w2.heap.size,q,none⟩:=by unfold Addr.add;split<;>simp_all
    rw[hadd,hh.cell]
    simpa using hu)
   have hone:Hid (∀u∈([.string (strV x),.bool ptr]:List Value),u.oneCell'=true):=zi (by simp;exact⟨rfl,rfl⟩);have hsz:Hid (B≤(w2.alloc (.cells #[.string (strV x),.bool ptr] 79)).heap.size):=zi (Nat.le_trans hBw (Nat.le_trans q2.wr.size hbn.size));have q3:=zi (q2.below hbn);clear hO2 hW2 hbn q2;go_wp2_with
    (at_builtin
     go_loud (refine wpList_append_own_at _ rfl (.tmp 20) (.tmp 25) 23 rfl B 79 iA _ 2 24 rfl hiA hzA0 hzA1 hzA2 rfl (by omega) (.slice A ln c) ln (l.flatMap Vr.cells) rfl (own_len hO3.out hln.out.symm) ⟨w2.heap.size,0,none⟩ 1 1 [.string (strV x),.bool ptr] rfl rfl hnews.out hone.out (by unfold maxLen;omega) (by omega) hsz.out ?_)
     go_loud (
      intro v5 w5 ho5 hg5 _ _;have hO7:Hid (w5.ownsRow B 79 2 v5 (ln+1) (l.flatMap Vr.cells++ [.string (strV x),.bool ptr])):=zi ho5;have hP7:Hid (PAt C L s2 w5∧Writes [some L.g,(Value.slice A ln c).ownBlock] w w5):=zi ⟨q3.out.at_.writes (Writes.of_grown hg5 (M:= [(Value.slice A ln c).ownBlock]) (by simp)) (fun k hk=>by have:=ownK_ge hO3.out (List.mem_singleton.1 hk).symm;omega),(q3.out.wr.more (by simp)).trans (Writes.of_grown hg5 (by simp))⟩
      clear ho5 hg5))
   go_ret;rw[hF.out];refine⟨_,rfl,hP7.out.1,hP7.out.2,?_,fun y hy=> ?_⟩
   ·rw[List.length_append,List.length_singleton,←hln.out,List.flatMap_append];exact hO7.out
   ·rcases List.mem_append.1 hy with h1|h1
    ·exact hnm.out y h1
    ·simp at h1;subst h1;exact hxl
  |false=>
   clear hlt2 hge2 hlm hbn;go_wp2_with fail;refine(name_from q1.out hnf.out).mono ?_;rintro e w2 ⟨rfl,q2,hxl,hW2⟩;have hO2:=own_pw hO1.out hW2 hB;have hbn:=below_new w2 (.cells #[.string (strV x),.bool ptr] 79);have hO3:=zi (own_below hO2 hbn)
   have hnews:Hid (∀(q:Nat) u,([.string (strV x),.bool ptr]:List Value)[q]? =some u→(w2.alloc (.cells #[.string (strV x),.bool ptr] 79)).cell? ((⟨w2.heap.size,0,none⟩:Addr).add q)=some u):=zi (fun q u hu=>by
    have hh:=Holds.new w2 79 #[.string (strV x),.bool ptr]
    have hadd:(⟨w2.heap.size,0,none⟩:Addr).add q=⟨w2.heap.size,q,none⟩:=by unfold Addr.add;split<;>simp_all
    rw[hadd,hh.cell]
    simpa using hu)
   have hone:Hid (∀u∈([.string (strV x),.bool ptr]:List Value),u.oneCell'=true):=zi (by simp;exact⟨rfl,rfl⟩);have hsz:Hid (B≤(w2.alloc (.cells #[.string (strV x),.bool ptr] 79)).heap.size):=zi (Nat.le_trans hBw (Nat.le_trans q2.wr.size hbn.size));have q3:=zi (q2.below hbn);clear hO2 hW2 hbn q2;go_wp2_with
    (at_builtin
     go_loud (refine wpList_append_own_at _ rfl (.tmp 20) (.tmp 25) 23 rfl B 79 iA _ 2 24 rfl hiA hzA0 hzA1 hzA2 rfl (by omega) (.slice A ln c) ln (l.flatMap Vr.cells) rfl (own_len hO3.out hln.out.symm) ⟨w2.heap.size,0,none⟩ 1 1 [.string (strV x),.bool ptr] rfl rfl hnews.out hone.out (by unfold maxLen;omega) (by omega) hsz.out ?_)
     go_loud (
      intro v5 w5 ho5 hg5 _ _;have hO7:Hid (w5.ownsRow B 79 2 v5 (ln+1) (l.flatMap Vr.cells++ [.string (strV x),.bool ptr])):=zi ho5;have hP7:Hid (PAt C L s2 w5∧Writes [some L.g,(Value.slice A ln c).ownBlock] w w5):=zi ⟨q3.out.at_.writes (Writes.of_grown hg5 (M:= [(Value.slice A ln c).ownBlock]) (by simp)) (fun k hk=>by have:=ownK_ge hO3.out (List.mem_singleton.1 hk).symm;omega),(q3.out.wr.more (by simp)).trans (Writes.of_grown hg5 (by simp))⟩
      clear ho5 hg5))
   go_ret;rw[hF.out];refine⟨_,rfl,hP7.out.1,hP7.out.2,?_,fun y hy=> ?_⟩
   ·rw[List.length_append,List.length_singleton,←hln.out,List.flatMap_append];exact hO7.out
   ·rcases List.mem_append.1 hy with h1|h1
    ·exact hnm.out y h1
    ·simp at h1;subst h1;exact hxl
 cases hn:namedF C s with
 |false=>exact hgoal false hn (fun h=>by cases h)
 |true=>
  by_cases hlm:ln<most
  ·exact hgoal true hn (fun _=>hlm)
  ·have hF:Hid (R=(l,failF C 53 s)):=zi (by rw[hR];unfold moreV;rw[hn,decide_eq_true (by rw[←hln.out];omega)];rfl)
   have hge:(most:Int)≤(ln:Int):=by omega
   have hge2:decide (most≤ln)=true:=by simp;omega
   replace hn:=zi hn;clear hgoal hR hx hs2 hlm;go_enter Tryz.func32,Tryz.ntmps32;go_wp2_with fail;refine(named_from hM.out hn.out).mono ?_;rintro e w1 ⟨rfl,q1,hW1⟩;have hO1:=zi (own_pw hown.out hW1 hB);replace q1:=zi q1;clear hW1;go_wp2_with fail;refine(fail_from q1.out 53 (by decide) rfl).mono ?_;rintro e w2 ⟨rfl,q2,hW2⟩;have hO2:=zi (own_pw hO1.out hW2 hB);replace q2:=zi q2;clear hW2;go_wp2_with fail;go_ret;rw[hF.out];exact⟨_,rfl,q2.out.at_,q2.out.wr.more (by simp),hO2.out,hnm.out⟩
theorem span_le (p:UInt8→Bool):∀l:List UInt8,span_ p l≤l.length
 | []=>Nat.le_refl _
 |c::r=>by unfold span_;have:=span_le p r;split<;>simp<;>omega
theorem span_cons_yes {p:UInt8→Bool} {c:UInt8} {r:List UInt8} (h:p c=true):span_ p (c::r)=span_ p r+1:=by show(if p c then span_ p r+1 else 0)=_;rw[if_pos h]
theorem span_cons_no {p:UInt8→Bool} {c:UInt8} {r:List UInt8} (h:p c=false):span_ p (c::r)=0:=by show(if p c then span_ p r+1 else 0)=_;rw[if_neg (by rw[h];simp)]
def Tok.ok (t:Tok):Prop:=t.at_≤4096∧t.t.length≤4096∧t.k≤2
theorem lexL_fit:∀(f:Nat) (l:List UInt8) (i:Nat) (out:List Tok),i+l.length≤4096→out.length≤i→(∀t∈out,t.ok)→(lexL f l i out).1.length≤4096∧(∀t∈(lexL f l i out).1,t.ok)∧(lexL f l i out).2.1≤4096∧(lexL f l i out).2.2≤100
 |0,l,i,out,hi,ho,h=>⟨by unfold lexL;simp only;omega,h,by unfold lexL;simp,by unfold lexL;simp⟩
 |f+1,l,i,out,hi,ho,h=>by
  have snoc:∀(t:Tok),t.ok→∀x∈out++ [t],x.ok:=fun t ht x hx=>by
   rcases List.mem_append.1 hx with h1|h1
   ·exact h x h1
   ·simp at h1;subst h1;exact ht
  have err:∀(a b:Nat),a≤4096→b≤100→(([]:List Tok),a,b).1.length≤4096∧(∀t∈(([]:List Tok),a,b).1,t.ok)∧(([]:List Tok),a,b).2.1≤4096∧(([]:List Tok),a,b).2.2≤100:=fun a b h1 h2=>⟨by simp,by simp,h1,h2⟩;unfold lexL
  cases l with
  |nil=>exact⟨by simp only;omega,h,by simp,by simp⟩
  |cons c r=>
   simp only[List.length_cons]at hi;simp only;have hs:=fun p=>span_le p (c::r);simp only[List.length_cons]at hs;split
   ·exact lexL_fit f r (i+1) out (by omega) (by omega) h
   split
   ·have:=hs fun x=>x.toNat !=10;exact lexL_fit f _ _ out (by simp only[List.length_drop,List.length_cons];omega) (by omega) h
   split
   ·rename_i hl;split
    ·exact err i 53 (by omega) (by decide)
    ·have h1:=hs fun x=>letC x||digC x
     have h2:1≤span_ (fun x=>letC x||digC x) (c::r):=by rw[span_cons_yes (by simp[hl])];omega
     refine lexL_fit f _ _ _ (by simp only[List.length_drop,List.length_cons];omega) (by rw[List.length_append,List.length_singleton];omega) (snoc _ ⟨by simp only;omega,?_,by simp⟩);simp only[List.length_take,List.length_cons];omega
   split
   ·rename_i hd;have h1:=hs digC
    have h2:1≤span_ digC (c::r):=by rw[span_cons_yes hd];omega
    have hgo:=lexL_fit f ((c::r).drop (span_ digC (c::r))) (i+span_ digC (c::r)) (out++ [⟨1,(c::r).take (span_ digC (c::r)),i⟩]) (by simp only[List.length_drop,List.length_cons];omega) (by rw[List.length_append,List.length_singleton];omega) (snoc _ ⟨by simp only;omega,by simp only[List.length_take,List.length_cons];omega,by simp⟩);split
    ·exact err i 53 (by omega) (by decide)
    split
    all_goals
     split
     ·exact err i 50 (by omega) (by decide)
     ·exact hgo
   split
   ·rename_i h2
    have hr:1≤r.length:=by
     cases r with
     |nil=>simp[two_]at h2
     |cons d q=>simp
    exact lexL_fit f _ _ _ (by simp only[List.length_drop,List.length_cons];omega) (by rw[List.length_append,List.length_singleton];omega) (snoc _ ⟨by simp only;omega,by simp;omega,by simp⟩)
   split
   ·exact lexL_fit f _ _ _ (by omega) (by rw[List.length_append,List.length_singleton];omega) (snoc _ ⟨by simp only;omega,by simp,by simp⟩)
   ·exact err i 50 (by omega) (by decide)
theorem lexF_fit (l:List UInt8) (he:(lexF l).2.2=0):PC.Fit ⟨(lexF l).1,l.length⟩:=by
 unfold lexF at he⊢;split at he
 ·cases he
 ·rename_i h;rw[if_neg h];obtain⟨h1,h2,_⟩:=lexL_fit (l.length+1) l 0 [] (by omega) (by simp) (by simp);exact⟨h1,by simp only;omega,fun t ht=>(h2 t ht).1,fun t ht=>⟨(h2 t ht).2.1,(h2 t ht).2.2⟩⟩
theorem digit_any (w:World) (c:UInt8):Calls Tryz.prog 79 #[.int .u8 c.toNat] w fun e w'=>e= .returned (.bool (digC c))∧w'=w:=by
 have hc:=c.toNat_lt;obtain⟨n,hn⟩:∃n,n=c.toNat:=⟨_,rfl⟩;unfold digC;rw[←hn]at hc⊢;clear hn;rcases Nat.lt_or_ge n 48 with h1|h1
 ·have h2:(48≤n&&n≤57:Bool)=false:=by simp;omega
  have h3:¬(48:Int)≤(n:Int):=by omega
  rw[h2];go_enter Tryz.func79,Tryz.ntmps79;go_wp2_with fail;go_ret;exact⟨rfl,rfl⟩
 ·have h3:(48:Int)≤(n:Int):=by omega
  rcases Nat.lt_or_ge 57 n with h4|h4
  ·have h2:(48≤n&&n≤57:Bool)=false:=by simp;omega
   have h5:¬(n:Int)≤57:=by omega
   rw[h2];go_enter Tryz.func79,Tryz.ntmps79;go_wp2_with fail;go_ret;exact⟨rfl,rfl⟩
  ·have h2:(48≤n&&n≤57:Bool)=true:=by simp;omega
   have h5:(n:Int)≤57:=by omega
   rw[h2];go_enter Tryz.func79,Tryz.ntmps79;go_wp2_with fail;go_ret;exact⟨rfl,rfl⟩
theorem letter_any (w:World) (c:UInt8):Calls Tryz.prog 78 #[.int .u8 c.toNat] w fun e w'=>e= .returned (.bool (letC c))∧w'=w:=by
 have hc:=c.toNat_lt;obtain⟨n,hn⟩:∃n,n=c.toNat:=⟨_,rfl⟩;unfold letC;rw[←hn]at hc⊢;clear hn;obtain⟨b,hb⟩:∃b,b=((97≤n&&n≤122)|| (65≤n&&n≤90)||n==95:Bool):=⟨_,rfl⟩;rw[←hb];rcases(show(97≤n∧n≤122)∨122<n∨(65≤n∧n≤90)∨n<65∨n=95∨(90<n∧n<97∧n≠95)by omega)with h|h|h|h|h|h
 ·have hB:Hid (b=true):=zi (by rw[hb];simp;omega)
  have g1:(97:Int)≤(n:Int):=by omega
  have g2:(n:Int)≤122:=by omega
  clear hb h;go_enter Tryz.func78,Tryz.ntmps78;go_wp2_with fail;go_ret;rw[hB.out];exact⟨rfl,rfl⟩
 ·have hB:Hid (b=false):=zi (by rw[hb];simp;omega)
  have g1:(97:Int)≤(n:Int):=by omega
  have g2:¬(n:Int)≤122:=by omega
  have g3:(65:Int)≤(n:Int):=by omega
  have g4:¬(n:Int)≤90:=by omega
  have g5:((n:Int)==95)=false:=by simp;omega
  clear hb h;go_enter Tryz.func78,Tryz.ntmps78;go_wp2_with fail;go_ret;rw[hB.out];exact⟨rfl,rfl⟩
 ·have hB:Hid (b=true):=zi (by rw[hb];simp;omega)
  have g1:¬(97:Int)≤(n:Int):=by omega
  have g3:(65:Int)≤(n:Int):=by omega
  have g4:(n:Int)≤90:=by omega
  clear hb h;go_enter Tryz.func78,Tryz.ntmps78;go_wp2_with fail;go_ret;rw[hB.out];exact⟨rfl,rfl⟩
 ·have hB:Hid (b=false):=zi (by rw[hb];simp;omega)
  have g1:¬(97:Int)≤(n:Int):=by omega
  have g3:¬(65:Int)≤(n:Int):=by omega
  have g5:((n:Int)==95)=false:=by simp;omega
  clear hb h;go_enter Tryz.func78,Tryz.ntmps78;go_wp2_with fail;go_ret;rw[hB.out];exact⟨rfl,rfl⟩
 ·have hB:Hid (b=true):=zi (by rw[hb];simp;omega)
  have g1:¬(97:Int)≤(n:Int):=by omega
  have g3:(65:Int)≤(n:Int):=by omega
  have g4:¬(n:Int)≤90:=by omega
  have g5:((n:Int)==95)=true:=by simp;omega
  clear hb h;go_enter Tryz.func78,Tryz.ntmps78;go_wp2_with fail;go_ret;rw[hB.out];exact⟨rfl,rfl⟩
 ·have hB:Hid (b=false):=zi (by rw[hb];simp;omega)
  have g1:¬(97:Int)≤(n:Int):=by omega
  have g3:(65:Int)≤(n:Int):=by omega
  have g4:¬(n:Int)≤90:=by omega
  have g5:((n:Int)==95)=false:=by simp;omega
  clear hb h;go_enter Tryz.func78,Tryz.ntmps78;go_wp2_with fail;go_ret;rw[hB.out];exact⟨rfl,rfl⟩
theorem one_any (w:World) (s:ByteArray) (c:UInt8) (hs:s.size≤100):Calls Tryz.prog 80 #[.string s,.int .u8 c.toNat] w fun e w'=>e= .returned (.bool (s.data.toList.contains c))∧w'=w:=by
 obtain⟨b,hb⟩:∃b,b=s.data.toList.contains c:=⟨_,rfl⟩;rw[←hb];replace hb:=zi hb;have hc:=c.toNat_lt;go_enter Tryz.func80,Tryz.ntmps80;go_wp2_with fail
 go_loop [5] (fun i=>∃k:Nat,k≤s.size∧i= .int .i64 k∧Hid ((s.data.toList.take k).contains c=false)) (fun i=>s.size-(intOf i).toNat)
 case atStart=>exact⟨0,Nat.zero_le _,rfl,zi rfl⟩
 case round=>
  obtain⟨k,hk,rfl,hT⟩:=hrel;by_cases hlt:k<s.size
  ·have hsn:=take_snocB s k hlt;obtain⟨x,hx⟩:∃x,x=s[k]:=⟨_,rfl⟩;have hmem:Hid (x∈s.data.toList):=zi (by rw[hx];exact List.getElem_mem (by simpa using hlt));rw[←hx]at hsn;have hx3:=x.toNat_lt;by_cases hxc:x=c
   ·have hq:(((s[k].toNat:Int))==((c.toNat:Int)))=true:=by rw[←hx,hxc];simp
    have hB:Hid (b=true):=zi (by rw[hb.out,←hxc];simpa using hmem.out);clear hx hsn hmem hxc;go_wp2_with fail;go_ret;rw[hB.out];exact⟨rfl,rfl⟩
   ·have hq:(((s[k].toNat:Int))==((c.toNat:Int)))=false:=by rw[←hx];simp;intro h;exact hxc (UInt8.toNat_inj.1 (by omega))
    have hT2:Hid ((s.data.toList.take (k+1)).contains c=false):=zi (by
     have:=hT.out;rw[hsn];simp only[List.contains_append,this,Bool.false_or]
     simpa using fun h=>hxc h.symm)
    clear hx hsn hmem hT hxc;go_wp2_with fail;go_round
    case rel=>exact⟨k+1,by omega,by go_num,hT2⟩
    case measure=>simp[intOf];omega
  ·have hB:Hid (b=false):=zi (by
    have:=hT.out;rw[List.take_of_length_le (by simp;omega)]at this
    rw[hb.out,this])
   clear hT;go_wp2_with fail;go_ret;rw[hB.out];exact⟨rfl,rfl⟩
structure TokL (s:ByteArray) (R:List Tok×Nat×Nat) (f i:Nat) (out:List Tok) (v:Value) (w0 w:World):Prop where
 eq:lexL f (s.data.toList.drop i) i out=R
 fuel:s.size<i+f
 len:out.length≤i
 own:w.ownsRow w0.heap.size 123 3 v out.length (out.flatMap Tok.cells)
 bel:Below w0.heap.size w0 w
def TokPost (R:List Tok×Nat×Nat) (w:World) (e:Ending) (w':World):Prop:=
 ∃A c,e= .returned (.tuple #[.slice A R.1.length c,.int .i64 R.2.1,.int .i64 R.2.2])∧Row w' w'.heap.size A (R.1.flatMap Tok.cells)∧R.1.length≤c∧Below w.heap.size w w'
theorem drop_cons (s:ByteArray) (i:Nat) (h:i<s.size):s.data.toList.drop i=s[i]::s.data.toList.drop (i+1):=by
 rw[List.drop_eq_getElem_cons (by simpa using h)];rfl
theorem TokL.go_ {s:ByteArray} {R:List Tok×Nat×Nat} {f i:Nat} {out:List Tok} {v:Value} {w0 w:World} (h:TokL s R f i out v w0 w) (hi:i<s.size):
  ∃f',f=f'+1∧lexL (f'+1) (s[i]::s.data.toList.drop (i+1)) i out=R:=by
 have hf:=h.fuel
 cases f with
 |zero=>omega
 |succ f=>exact⟨f,rfl,by rw[←drop_cons s i hi];exact h.eq⟩
theorem lexL_nil (f i:Nat) (out:List Tok):lexL f [] i out=(out,0,0):=by
 cases f with
 |zero=>unfold lexL;rfl
 |succ f=>unfold lexL;rfl
theorem lexL_ws {f i:Nat} {c:UInt8} {r:List UInt8} {out:List Tok} (h:wsC c=true):lexL (f+1) (c::r) i out=lexL f r (i+1) out:=by
 conv=>lhs;unfold lexL
 simp only;rw[if_pos h]
theorem lexL_note {f i:Nat} {c:UInt8} {r:List UInt8} {out:List Tok} (h:wsC c=false) (h2:c.toNat=35):lexL (f+1) (c::r) i out=lexL f ((c::r).drop (span_ (fun x=>x.toNat !=10) (c::r))) (i+span_ (fun x=>x.toNat !=10) (c::r)) out:=by
 conv=>lhs;unfold lexL
 simp only;rw[if_neg (by rw[h];simp),if_pos h2]
theorem lexL_name {f i:Nat} {c:UInt8} {r:List UInt8} {out:List Tok} (h:wsC c=false) (h2:c.toNat≠35) (h3:letC c=true):lexL (f+1) (c::r) i out=
  if 32<span_ (fun x=>letC x||digC x) (c::r)then([],i,53)
  else lexL f ((c::r).drop (span_ (fun x=>letC x||digC x) (c::r))) (i+span_ (fun x=>letC x||digC x) (c::r)) (out++ [⟨0,(c::r).take (span_ (fun x=>letC x||digC x) (c::r)),i⟩]):=by
 conv=>lhs;unfold lexL
 simp only;rw[if_neg (by rw[h];simp),if_neg h2,if_pos h3]
theorem lexL_num {f i:Nat} {c:UInt8} {r:List UInt8} {out:List Tok} (h:wsC c=false) (h2:c.toNat≠35) (h3:letC c=false) (h4:digC c=true):lexL (f+1) (c::r) i out=
  if (numG ((c::r).take (span_ digC (c::r))) 0 false).2||9223372036854775807<(numG ((c::r).take (span_ digC (c::r))) 0 false).1 then([],i,53)
  else if (match (c::r).drop (span_ digC (c::r))with| []=>false|d::_=>letC d)|| (c.toNat==48&&1<span_ digC (c::r))then([],i,50)
  else lexL f ((c::r).drop (span_ digC (c::r))) (i+span_ digC (c::r)) (out++ [⟨1,(c::r).take (span_ digC (c::r)),i⟩]):=by
 conv=>lhs;unfold lexL
 simp only;rw[if_neg (by rw[h];simp),if_neg h2,if_neg (by rw[h3];simp),if_pos h4];rfl
theorem lexL_sign {f i:Nat} {c:UInt8} {r:List UInt8} {out:List Tok} (h:wsC c=false) (h2:c.toNat≠35) (h3:letC c=false) (h4:digC c=false):lexL (f+1) (c::r) i out=
  if two_ (c::r)then lexL f ((c::r).drop 2) (i+2) (out++ [⟨2,(c::r).take 2,i⟩])
  else if signs1.contains c then lexL f r (i+1) (out++ [⟨2,[c],i⟩])else([],i,50):=by
 conv=>lhs;unfold lexL
 simp only;rw[if_neg (by rw[h];simp),if_neg h2,if_neg (by rw[h3];simp),if_neg (by rw[h4];simp)]
theorem extract_strV (s:ByteArray) (a b:Nat):s.extract a b=strV ((s.data.toList.drop a).take (b-a)):=by
 unfold strV;apply ByteArray.ext;rw[ByteArray.data_extract];apply Array.toList_inj.1;simp
theorem Tryz.infoTok:(Tryz.prog.info? 123).map (fun i=>(i.zero,i.size,i.bytes))=some (some (.agg #[.int .i64 0,.string ⟨#[]⟩,.int .i64 0]),3,32):=by kernel_rfl
end Go.Proofs.YtpndglghpojjkaaGreat
