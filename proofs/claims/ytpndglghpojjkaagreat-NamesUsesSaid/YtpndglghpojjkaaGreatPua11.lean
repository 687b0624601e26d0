/-
  7 texts of the proof, in one file: no condition.
-/
import Derived.Test.YtpndglghpojjkaaGreatPua10
set_option maxRecDepth 1000000
set_option maxHeartbeats 8000000
namespace Go.Proofs.YtpndglghpojjkaaGreat
def exL:Ex→List S
 | .nil=> []
 | .mk k _ nm a b=>(if k=1 then [nm]else [])++(exL a++exL b)
def cnL:Cn→List S
 | .nil=> []
 | .mk _ a b p q _=>exL a++(exL b++(cnL p++cnL q))
def agR (l:List Ag):List S:=l.flatMap fun a=>exL a.e
def agP (l:List Ag):List S:=l.flatMap fun a=>if a.ptr then []else exL a.e
def each (d:Hd→List S):Sl→List S
 | .nil=> []
 | .cons h t e r=>d h++(each d t++(each d e++each d r))
def allH (p:Hd→Prop):Sl→Prop
 | .nil=>True
 | .cons h t e r=>p h∧allH p t∧allH p e∧allH p r
theorem ku {d d':Hd→List S} {p:Hd→Prop} {x:S} (h:∀y,p y→(x∈d y↔x∈d' y)):∀{l:Sl},allH p l→(x∈each d l↔x∈each d' l)
 | .nil,_=>Iff.rfl
 | .cons y t e r,⟨h1,h2,h3,h4⟩=>by unfold each;simp only[List.mem_append];rw[h y h1,ku h h2,ku h h3,ku h h4]
theorem allH.imp {p q:Hd→Prop} (h:∀y,p y→q y):∀{l:Sl},allH p l→allH q l
 | .nil,_=>trivial
 | .cons _ _ _ _,⟨h1,h2,h3,h4⟩=>⟨h _ h1,h2.imp h,h3.imp h,h4.imp h⟩
theorem allH.and {p q:Hd→Prop}:∀{l:Sl},allH p l→allH q l→allH (fun y=>p y∧q y) l
 | .nil,_,_=>trivial
 | .cons _ _ _ _,⟨h1,h2,h3,h4⟩,⟨g1,g2,g3,g4⟩=>⟨⟨h1,g1⟩,h2.and g2,h3.and g3,h4.and g4⟩
section
variable (K:List UInt8→Nat)
def vU (h:Hd):List S:=if h.k=0∨h.k=4∨h.k=6 then [h.x]else if h.k=8 then(if h.x= []then []else [h.x])else if h.k=1 then [h.y]else []
def hdP (h:Hd):List S:=(exL h.e++(exL h.f++(cnL h.c++(agP h.args++vU h)))).filter fun x=>K x==0
def jd (h:Hd):List S:=if h.k=6∨h.k=7 then [h.y]else []
def iw (h:Hd):List S:=if h.k=8 then [h.y]else []
def globs (d:Hd→List S) (h:Hd):List S:=(d h).filter fun x=>K x==0
def eY (h:Hd):List S:=if h.k=0∨h.k=4∨h.k=6 then [h.x]else if h.k=8 then h.x::agR h.args else if h.k=1 then [h.y]else []
def hdR (h:Hd):List S:=(eY h++(exL h.e++(exL h.f++cnL h.c))).filter fun x=>x != []&&K x==0
end
structure NeH (h:Hd):Prop where
 e:∀x∈exL h.e,x≠[]
 f:∀x∈exL h.f,x≠[]
 c:∀x∈cnL h.c,x≠[]
 a:∀x∈agR h.args,x≠[]
 x:h.k=0∨h.k=4∨h.k=6→h.x≠[]
 y:h.k=1→h.y≠[]
 n:h.k≠8→h.args= []
 p:∀a∈h.args,a.ptr=true→a.e=Ex.nil
theorem Fb {l:List Ag} (h:∀a∈l,a.ptr=true→a.e=Ex.nil):agP l=agR l:=by
 unfold agP agR
 induction l with
 |nil=>rfl
 |cons a l ih=>
  rw[List.flatMap_cons,List.flatMap_cons,ih fun b hb=>h b (List.mem_cons_of_mem _ hb)];congr 1
  cases hp:a.ptr with
  |false=>simp
  |true=>rw[h a (List.mem_cons_self ..) hp];rfl
theorem E8 {K:List UInt8→Nat} {h:Hd} (H:NeH h) (x:S):x∈hdP K h↔x∈hdR K h:=by
 unfold hdP hdR;rw[Fb H.p];simp only[List.mem_filter,List.mem_append,Bool.and_eq_true,bne_iff_ne,ne_eq,beq_iff_eq];have he:=H.e x;have hf:=H.f x;have hc:=H.c x;have ha:=H.a x
 have hown:(x∈agR h.args∨x∈vU h)∧K x=0↔x∈eY h∧x≠[]∧K x=0:=by
  by_cases h8:h.k=8
  ·have d1:vU h=if h.x= []then []else [h.x]:=by unfold vU;rw[if_neg (show¬(h.k=0∨h.k=4∨h.k=6)by omega),if_pos h8]
   have d2:eY h=h.x::agR h.args:=by unfold eY;rw[if_neg (show¬(h.k=0∨h.k=4∨h.k=6)by omega),if_pos h8]
   rw[d1,d2];by_cases hx:h.x= []
   ·rw[if_pos hx,hx];simp only[List.not_mem_nil,or_false,List.mem_cons];constructor
    ·rintro⟨a,b⟩;exact⟨.inr a,ha a,b⟩
    ·rintro⟨a|a,b,c⟩
     ·exact absurd a b
     ·exact⟨a,c⟩
   ·rw[if_neg hx];constructor
    ·rintro⟨a|a,b⟩
     ·exact⟨List.mem_cons_of_mem _ a,ha a,b⟩
     ·obtain rfl:=List.mem_singleton.1 a;exact⟨List.mem_cons_self ..,hx,b⟩
    ·rintro⟨a,b,c⟩;rcases List.mem_cons.1 a with a|a
     ·exact⟨.inr (List.mem_singleton.2 a),c⟩
     ·exact⟨.inl a,c⟩
  ·have e0:=H.n h8
   have d1:eY h=vU h:=by unfold vU eY;rw[if_neg h8,if_neg h8]
   have d2:vU h=if h.k=0∨h.k=4∨h.k=6 then [h.x]else if h.k=1 then [h.y]else []:=by unfold vU;rw[if_neg h8]
   rw[e0,d1,d2]
   have hag:x∉agR []:=by simp[agR]
   by_cases h0:h.k=0∨h.k=4∨h.k=6
   ·rw[if_pos h0];have:=H.x h0;simp only[List.mem_singleton];constructor
    ·rintro⟨a|a,b⟩
     ·exact absurd a hag
     ·subst a;exact⟨rfl,this,b⟩
    ·rintro⟨a,b,c⟩;exact⟨.inr a,c⟩
   ·rw[if_neg h0];by_cases h1:h.k=1
    ·rw[if_pos h1];have:=H.y h1;simp only[List.mem_singleton];constructor
     ·rintro⟨a|a,b⟩
      ·exact absurd a hag
      ·subst a;exact⟨rfl,this,b⟩
     ·rintro⟨a,b,c⟩;exact⟨.inr a,c⟩
    ·rw[if_neg h1];simp only[List.not_mem_nil,or_false,false_and,iff_false];exact fun⟨a,_⟩=>hag a
 constructor
 ·rintro⟨a|a|a|a,b⟩
  ·exact⟨.inr (.inl a),he a,b⟩
  ·exact⟨.inr (.inr (.inl a)),hf a,b⟩
  ·exact⟨.inr (.inr (.inr a)),hc a,b⟩
  ·obtain⟨x1,x2,x3⟩:=hown.1 ⟨a,b⟩;exact⟨.inl x1,x2,x3⟩
 ·rintro⟨a|a|a|a,b,c⟩
  ·obtain⟨x1,x2⟩:=hown.2 ⟨a,b,c⟩;exact⟨.inr (.inr (.inr x1)),x2⟩
  ·exact⟨.inl a,c⟩
  ·exact⟨.inr (.inl a),c⟩
  ·exact⟨.inr (.inr (.inl a)),c⟩
theorem jc {K:List UInt8→Nat}:∀{l:Sl},dF K l=none→allH (fun h=>aB K h=true) l
 | .nil,_=>trivial
 | .cons h t e r,hf=>by
  unfold dF at hf;by_cases hs:aB K h=true
  ·rw[if_pos hs]at hf
   cases ht:dF K t with
   |some b=>rw[ht]at hf;cases hf
   |none=>
    rw[ht]at hf;simp only at hf
    cases he:dF K e with
    |some b=>rw[he]at hf;cases hf
    |none=>
     rw[he]at hf;simp only at hf;exact⟨hs,jc ht,jc he,jc hf⟩
  ·rw[if_neg hs]at hf;cases hf
theorem Ew {K:List UInt8→Nat} {h:Hd} (H:aB K h=true):globs K jd h=jd h:=by
 unfold globs jd;by_cases hk:h.k=6∨h.k=7
 ·rw[if_pos hk]
  have:K h.y=0:=by unfold aB at H;rcases hk with hk|hk<;>simp[hk]at H<;>simp[H]
  simp[this]
 ·rw[if_neg hk];rfl
theorem Em {K:List UInt8→Nat} {h:Hd} (H:aB K h=true):globs K iw h=iw h:=by
 unfold globs iw;by_cases hk:h.k=8
 ·rw[if_pos hk]
  have:K h.y=0:=by unfold aB at H;simp[hk]at H;simp[H]
  simp[this]
 ·rw[if_neg hk];rfl
theorem Gf {K:List UInt8→Nat} {l:Sl} (H:allH NeH l):canon (each (hdP K) l)=(each (hdR K) l).foldl bH []:=by
 rw[pR];exact pX fun x=>ku (fun y hy=>E8 hy x) H
theorem Gl {K:List UInt8→Nat} {l:Sl} (H:dF K l=none):canon (each (globs K jd) l)=(each jd l).foldl bH []:=by
 rw[pR];exact pX fun x=>ku (fun y hy=>by rw[Ew hy]) (jc H)
theorem Gj {K:List UInt8→Nat} {l:Sl} (H:dF K l=none):canon (each (globs K iw) l)=(each iw l).foldl bH []:=by
 rw[pR];exact pX fun x=>ku (fun y hy=>by rw[Em hy]) (jc H)
theorem Dw {K:List UInt8→Nat} {a:Ag} (hp:a.ptr=true→a.e=Ex.nil):(∀x∈exL (fG K a).e,x∈exL a.e)∧((fG K a).ptr=true→(fG K a).e=Ex.nil):=by
 unfold fG;split
 ·exact⟨fun x h=>by simp[exL]at h,fun _=>rfl⟩
 ·exact⟨fun _ h=>h,hp⟩
theorem ES {K:List UInt8→Nat} {h:Hd} (H:NeH h):NeH (n_ K h):=by
 have ha:∀x∈agR (h.args.map (fG K)),x≠[]:=by intro x hx;unfold agR at hx;rw[List.mem_flatMap]at hx;obtain⟨b,hb,hx⟩:=hx;rw[List.mem_map]at hb;obtain⟨a,ha,rfl⟩:=hb;exact H.a x (List.mem_flatMap.2 ⟨a,ha,(Dw (H.p a ha)).1 x hx⟩)
 have hp:∀b∈h.args.map (fG K),b.ptr=true→b.e=Ex.nil:=by intro b hb;rw[List.mem_map]at hb;obtain⟨a,ha,rfl⟩:=hb;exact(Dw (H.p a ha)).2
 unfold n_;split
 ·rename_i hq;simp only[Bool.and_eq_true,beq_iff_eq]at hq;exact⟨fun x hx=>by simp[exL]at hx,H.f,H.c,ha,fun h=>by simp at h,fun h=>by simp at h,fun _=>by rw[H.n (by rw[hq.2];decide)];rfl,hp⟩
 ·exact⟨H.e,H.f,H.c,ha,H.x,H.y,fun h8=>by show h.args.map _= [];rw[H.n h8];rfl,hp⟩
theorem vW {K:List UInt8→Nat}:∀{l:Sl},allH NeH l→allH NeH (dI K l)
 | .nil,_=>trivial
 | .cons _ _ _ _,⟨h1,h2,h3,h4⟩=>⟨ES h1,vW h2,vW h3,vW h4⟩
theorem xC {l:List Vr} {x:S}:dX l x=0↔x∉l.map Vr.nm:=by
 induction l with
 |nil=>simp[dX]
 |cons v l ih=>
  unfold dX;by_cases e:v.nm=x
  ·simp only[e,beq_self_eq_true,if_true,List.map_cons,List.mem_cons,true_or,not_true_eq_false,iff_false];cases v.ptr<;>simp
  ·have:(v.nm==x)=false:=by simpa using e
   rw[this];simp only[Bool.false_eq_true,if_false,ih,List.map_cons,List.mem_cons,not_or];exact⟨fun h=>⟨fun h2=>e h2.symm,h⟩,fun h=>h.2⟩
theorem xB {l:List Vr} {x:S} (hn:(l.map Vr.nm).Nodup) {v:Vr} (hv:v∈l) (hx:v.nm=x):dX l x=if v.ptr then 2 else 1:=by
 induction l with
 |nil=>cases hv
 |cons u l ih=>
  rw[List.map_cons,List.nodup_cons]at hn;unfold dX;rcases List.mem_cons.1 hv with e|e
  ·subst e;rw[hx];simp
  ·have:u.nm≠x:=fun h=>hn.1 (by rw[h,←hx];exact List.mem_map_of_mem e)
   have:(u.nm==x)=false:=by simpa using this
   rw[this];exact ih hn.2 e
theorem DL {l:List Vr} (hn:(l.map Vr.nm).Nodup):dX l.reverse=dX l:=by
 funext x
 have hn2:(l.reverse.map Vr.nm).Nodup:=by rw[List.map_reverse];exact(List.reverse_perm _).nodup_iff.2 hn
 by_cases h:x∈l.map Vr.nm
 ·obtain⟨v,hv,hx⟩:=List.mem_map.1 h;rw[xB hn hv hx,xB hn2 (List.mem_reverse.2 hv) hx]
 ·rw[xC.2 h,xC.2 (by rw[List.map_reverse,List.mem_reverse];exact h)]
end Go.Proofs.YtpndglghpojjkaaGreat
namespace Go.Proofs.YtpndglghpojjkaaGreat
open Go.RowKit Go.Deep
theorem Row.other {w:World} {B:Nat} {A:Option Addr} {l:List S} {p:Addr} {X:Option Addr} {n m:Nat} (hr:Row w B A (l.map encStr)) (hg:w.cell? p=some (.slice X n m)) (v:Value):Row (w.setCell p v) B A (l.map encStr):=fun hne=>by
 obtain⟨b,off,rfl,hb,hc⟩:=hr hne;refine⟨b,off,rfl,hb,fun j u hu=> ?_⟩;have h1:=hc j u hu
 have e:p≠⟨b,off+j,none⟩:=fun e=>by subst e;rw[h1]at hg;obtain⟨x,_,rfl⟩:=List.mem_map.1 (List.mem_of_getElem? hu);cases hg
 exact(World.cell?_setCell_other _ _ _ _ e).trans h1
def usC (F:FnV) (X1 X2 X3:Option Addr) (n1 n2 n3 k1 k2 k3:Nat):Array Value:= #[.string (ay F.nm),.slice F.A1 F.ps.length F.c1,.slice F.A2 F.ls.length F.c2,.slice F.A3 F.n3 F.c3,.slice X1 n1 k1,.slice X2 n2 k2,.slice X3 n3 k3]
structure UsB (F:FnV) (gu B:Nat) (c a l:List S) (w0 w:World):Prop where
 row:∃X1 X2 X3 k1 k2 k3,Holds w gu 106 (usC F X1 X2 X3 c.length a.length l.length k1 k2 k3)∧(Row w w.heap.size X1 (c.map encStr)∧c.length≤k1)∧(Row w w.heap.size X2 (a.map encStr)∧a.length≤k2)∧(Row w w.heap.size X3 (l.map encStr)∧l.length≤k3)
 ok:F.ok w0
 bl:Below w0.heap.size w0 w
 lo:w0.heap.size≤gu
 lc:c.length≤B∧a.length≤B∧l.length≤B
section
variable {F:FnV} {gu B:Nat} {c a l:List S} {w0 w w':World}
theorem UsB.below (h:UsB F gu B c a l w0 w) (hb:Below w.heap.size w w'):UsB F gu B c a l w0 w':=by
 obtain⟨X1,X2,X3,k1,k2,k3,hH,⟨r1,e1⟩,⟨r2,e2⟩,r3,e3⟩:=h.row;exact⟨⟨X1,X2,X3,k1,k2,k3,hH.below hb hH.lt,⟨(r1.below hb).more hb.size,e1⟩,⟨(r2.below hb).more hb.size,e2⟩,(r3.below hb).more hb.size,e3⟩,h.ok,h.bl.trans (hb.mono h.bl.size),h.lo,h.lc⟩
theorem UsB.more {B':Nat} (h:UsB F gu B c a l w0 w) (hB:B≤B'):UsB F gu B' c a l w0 w:=⟨h.row,h.ok,h.bl,h.lo,Nat.le_trans h.lc.1 hB,Nat.le_trans h.lc.2.1 hB,Nat.le_trans h.lc.2.2 hB⟩
end
theorem oG (l:List S) (x:S):(bH l x).length≤l.length+1:=by
 induction l with
 |nil=>simp[bH]
 |cons y l ih=>
  unfold bH;split
  ·simp;exact ih
  ·split<;>simp
def addN (F:FnV) (c:List S) (s:S):List S:=if s != []&&F.K s==0 then bH c s else c
theorem G5 (F:FnV) (c:List S) (s:S):(addN F c s).length≤c.length+1:=by
 unfold addN;split
 ·exact oG c s
 ·omega
theorem jl (F:FnV) (gu B:Nat) (c a l:List S) (w0 w:World) (h:UsB F gu B c a l w0 w) (hB:B≤100000) (s:S):
  Calls Tryz.prog 100 #[.pointer (some ⟨gu,0,none⟩),.string (ay s)] w fun e w'=>e= .returned (.tuple #[])∧UsB F gu (B+1) (addN F c s) a l w0 w'∧Writes [some gu] w w':=by
 by_cases hs:s= []
 ·have hR:Hid (addN F c s=c):=Za (by unfold addN;rw[hs];rfl)
  have e1:((ay s).toList== [])=true:=by rw[aH,hs];rfl
  have e2:(ay s).toList.isEmpty=true:=by rw[aH,hs];rfl
  have h':=Za (h.more (Nat.le_add_right B 1));clear h hs;go_enter Tryz.func100,Tryz.ntmps100;go_wp2_with fail;refine bodyPost_end (results_none rfl _ _ _) rfl ?_;exact⟨rfl,by rw[hR.out];exact h'.out,Writes.refl _ _⟩
 have e1:((ay s).toList== [])=false:=by rw[aH];simpa using hs
 have e2:(ay s).toList.isEmpty=false:=by rw[aH];cases s with|nil=>exact absurd rfl hs|cons=>rfl
 obtain⟨X1,X2,X3,k1,k2,k3,hH,⟨r1,l1⟩,⟨r2,l2⟩,r3,l3⟩:=h.row;have p0:w.cell? ⟨gu,0,none⟩=some (.string (ay F.nm)):=hH.cell 0;have p1:w.cell? ⟨gu,1,none⟩=some (.slice F.A1 F.ps.length F.c1):=hH.cell 1;have p2:w.cell? ⟨gu,2,none⟩=some (.slice F.A2 F.ls.length F.c2):=hH.cell 2;have p3:w.cell? ⟨gu,3,none⟩=some (.slice F.A3 F.n3 F.c3):=hH.cell 3;have pl:=hH.lt;have hk:=fE F w (h.ok.below h.bl) s;unfold FnV.cells at hk;replace hk:=Za hk;have h':=Za h;have hH':=Za hH;have r1':=Za (And.intro r1 l1);have r2':=Za (And.intro r2 l2);have r3':=Za (And.intro r3 l3);have hs':=Za hs;clear h hH r1 r2 r3 l1 l2 l3 hs;go_enter Tryz.func100,Tryz.ntmps100;go_wp2_with fail;refine hk.out.mono ?_;clear hk p0 p1 p2 p3 pl;rintro e w2 ⟨rfl,hb2⟩;have h2:=Za (h'.out.below hb2);have hW2:=Za (Writes.of_below hb2 [some gu]);have hH2:=hH'.out.below hb2 hH'.out.lt;by_cases hk0:F.K s=0
 ·have hR:Hid (addN F c s=bH c s):=Za (by unfold addN;rw[hk0,if_pos];simp[hs'.out])
  have hk1:((F.K s:Int)==0)=true:=by rw[hk0];rfl
  have q1:w2.cell? ⟨gu,4,none⟩=some (.slice X1 c.length k1):=hH2.cell 4;have pl:=hH2.lt;have hadd:=Za (add_any w2 X1 c.length k1 c s rfl (Nat.le_trans h'.out.lc.1 hB) r1'.out.2 ((r1'.out.1.below hb2).more hb2.size));have r2b:=Za ((r2'.out.1.below hb2).more hb2.size);have r3b:=Za ((r3'.out.1.below hb2).more hb2.size);obtain⟨n1,hn1⟩:∃y,y=c.length:=⟨_,rfl⟩;rw[←hn1]at q1 hadd;have hH2':=Za hH2;clear hb2 hH2 hk0 hn1;go_wp2_with fail;refine hadd.out.mono ?_;rintro e w3 ⟨⟨v,rfl,A',c',rfl,hr,hc⟩,hb3⟩;have hH3:=hH2'.out.below hb3 hH2'.out.lt;have q4:w3.cell? ⟨gu,4,none⟩=some (.slice X1 c.length k1):=hH3.cell 4;have pl:=hH3.lt;have z4:=hH3.frozen 4;have hW:Writes [some gu] w3 (w3.setCell ⟨gu,4,none⟩ (.slice A' (bH c s).length c')):=Writes.store w3 (by simp) _;have hlen:=oG c s
  have hend:Hid (UsB F gu (B+1) (bH c s) a l w0 (w3.setCell ⟨gu,4,none⟩ (.slice A' (bH c s).length c'))):=Za (by
   refine⟨⟨A',X2,X3,c',k2,k3,?_,⟨(hr.other q4 _).more hW.size,hc⟩,⟨(((r2b.out.below hb3).more hb3.size).other q4 _).more hW.size,r2'.out.2⟩,(((r3b.out.below hb3).more hb3.size).other q4 _).more hW.size,r3'.out.2⟩,h2.out.ok,?_,h2.out.lo,?_,?_,?_⟩
   ·have:=hH3.store 4 (.slice A' (bH c s).length c');simpa[usC]using this
   ·exact(h2.out.below hb3).bl.trans (hW.below (h2.out.below hb3).bl.size (fun k hk=>by simp at hk;rw[hk];exact h2.out.lo))
   ·have:=h'.out.lc.1;omega
   ·have:=h'.out.lc.2.1;omega
   ·have:=h'.out.lc.2.2;omega)
  have hWe:=Za ((hW2.out.trans (Writes.of_below hb3 [some gu])).trans hW);clear hH3 hW hlen hb3 hr hc q1;go_wp2_with fail;refine bodyPost_end (results_none rfl _ _ _) rfl ?_;exact⟨rfl,by rw[hR.out];exact hend.out,hWe.out⟩
 ·have hR:Hid (addN F c s=c):=Za (by unfold addN;rw[if_neg];simp[hk0])
  have hk1:((F.K s:Int)==0)=false:=by simp;omega
  clear hb2 hH2 hk0;go_wp2_with fail;refine bodyPost_end (results_none rfl _ _ _) rfl ?_;exact⟨rfl,by rw[hR.out];exact h2.out.more (Nat.le_add_right B 1),hW2.out⟩
theorem UsB.eq {F:FnV} {gu B B':Nat} {c c' a l:List S} {w0 w:World} (h:UsB F gu B c a l w0 w) (hB:B=B') (hc:c=c'):UsB F gu B' c' a l w0 w:=by subst hB hc;exact h
theorem iJ (F:FnV) (gu:Nat) (a l:List S) (w0:World):∀(e:Ex) (w:World) (B:Nat) (c:List S) (v:Value),aJ w0 Evr e v→UsB F gu B c a l w0 w→B+(exL e).length≤100000→
  Calls Tryz.prog 102 #[.pointer (some ⟨gu,0,none⟩),v] w fun e' w'=>e'= .returned (.tuple #[])∧UsB F gu (B+(exL e).length) ((exL e).foldl (addN F) c) a l w0 w'∧Writes [some gu] w w'
 | .nil,w,B,c,v,h,hU,hB=>by
  obtain rfl:v= .pointer none:=h;have hU':=Za hU;clear hU;go_enter Tryz.func102,Tryz.ntmps102;go_wp2_with fail;refine bodyPost_ret (results_none rfl _ _ _) rfl ?_;exact⟨rfl,hU'.out,Writes.refl _ _⟩
 | .mk kd n x e1 e2,w,B,c,v,h,hU,hB=>by
  obtain⟨g,va,vb,rfl,-,-,hk7,hH,ha,hb⟩:=h
  have hfc:Hid (∀wx,Below w0.heap.size w0 wx→wx.cell? ⟨g,0,none⟩=some (.int .i64 kd)∧wx.cell? ⟨g,2,none⟩=some (.string (ay x))∧wx.cell? ⟨g,3,none⟩=some va∧wx.cell? ⟨g,4,none⟩=some vb∧g<wx.heap.size):=Za fun wx hx=>by have h:=hH.below hx hH.lt;exact⟨h.cell 0,h.cell 2,h.cell 3,h.cell 4,h.lt⟩
  have hU':=Za hU;have c1:=Za (fun(w:World) (B:Nat) (c:List S)=>iJ F gu a l w0 e1 w B c va ha);have c2:=Za (fun(w:World) (B:Nat) (c:List S)=>iJ F gu a l w0 e2 w B c vb hb);have hB':=Za hB;clear hH ha hb hB hU;obtain⟨q0,q2,q3,q4,ql⟩:=hfc.out w hU'.out.bl;go_enter Tryz.func102,Tryz.ntmps102;by_cases hk1:kd=1
  ·subst hk1;have hE:Hid (exL (Ex.mk 1 n x e1 e2)=x::(exL e1++exL e2)):=Za rfl
   have hl:(exL (Ex.mk 1 n x e1 e2)).length=1+(exL e1).length+(exL e2).length:=by rw[hE.out];simp;omega
   rw[hl]at hB';have hl':=Za hl;clear hl;go_wp2_with fail;refine(jl F gu B c a l w0 w hU'.out (by have:=hB'.out;omega) x).mono ?_;rintro e5 w5 ⟨rfl,hU5,hW5⟩;clear q0 q2 q3 q4 ql;obtain⟨q0,q2,q3,q4,ql⟩:=hfc.out w5 hU5.bl;replace hU5:=Za hU5;replace hW5:=Za hW5;go_wp2_with fail;refine(c1.out w5 _ _ hU5.out (by have:=hB'.out;omega)).mono ?_;rintro e6 w6 ⟨rfl,hU6,hW6⟩;clear q0 q2 q3 q4 ql;obtain⟨q0,q2,q3,q4,ql⟩:=hfc.out w6 hU6.bl;replace hU6:=Za hU6;replace hW6:=Za hW6;go_wp2_with fail;refine(c2.out w6 _ _ hU6.out (by have:=hB'.out;omega)).mono ?_;rintro e7 w7 ⟨rfl,hU7,hW7⟩;replace hU7:=Za hU7;replace hW7:=Za hW7;clear q0 q2 q3 q4 ql;go_wp2_with fail;go_end0;exact⟨rfl,hU7.out.eq (by rw[hl'.out];omega) (by rw[hE.out,List.foldl_cons,List.foldl_append]),(hW5.out.trans hW6.out).trans hW7.out⟩
  ·have hE:Hid (exL (Ex.mk kd n x e1 e2)=exL e1++exL e2):=Za (by show(if kd=1 then [x]else [])++_=_;rw[if_neg hk1];rfl)
   have hl:(exL (Ex.mk kd n x e1 e2)).length=(exL e1).length+(exL e2).length:=by rw[hE.out];simp
   rw[hl]at hB';have hl':=Za hl
   have hk2:((kd:Int)==1)=false:=by simp;omega
   clear hl hk1;go_wp2_with fail;refine(c1.out w _ _ hU'.out (by have:=hB'.out;omega)).mono ?_;rintro e6 w6 ⟨rfl,hU6,hW6⟩;clear q0 q2 q3 q4 ql;obtain⟨q0,q2,q3,q4,ql⟩:=hfc.out w6 hU6.bl;replace hU6:=Za hU6;replace hW6:=Za hW6;go_wp2_with fail;refine(c2.out w6 _ _ hU6.out (by have:=hB'.out;omega)).mono ?_;rintro e7 w7 ⟨rfl,hU7,hW7⟩;replace hU7:=Za hU7;replace hW7:=Za hW7;clear q0 q2 q3 q4 ql;go_wp2_with fail;go_end0;exact⟨rfl,hU7.out.eq (by rw[hl'.out];omega) (by rw[hE.out,List.foldl_append]),hW6.out.trans hW7.out⟩
theorem oI (F:FnV) (gu:Nat) (a l:List S) (w0:World):∀(e:Cn) (w:World) (B:Nat) (c:List S) (v:Value),bC w0 Evr e v→UsB F gu B c a l w0 w→B+(cnL e).length≤100000→
  Calls Tryz.prog 103 #[.pointer (some ⟨gu,0,none⟩),v] w fun e' w'=>e'= .returned (.tuple #[])∧UsB F gu (B+(cnL e).length) ((cnL e).foldl (addN F) c) a l w0 w'∧Writes [some gu] w w'
 | .nil,w,B,c,v,h,hU,hB=>by
  obtain rfl:v= .pointer none:=h;have hU':=Za hU;clear hU;go_enter Tryz.func103,Tryz.ntmps103;go_wp2_with fail;refine bodyPost_ret (results_none rfl _ _ _) rfl ?_;exact⟨rfl,hU'.out,Writes.refl _ _⟩
 | .mk kd e1 e2 p q nm,w,B,c,v,h,hU,hB=>by
  obtain⟨g,va,vb,vp,vq,rfl,-,-,hk7,hH,ha,hb,hp,hq⟩:=h
  have hfc:Hid (∀wx,Below w0.heap.size w0 wx→wx.cell? ⟨g,1,none⟩=some va∧wx.cell? ⟨g,2,none⟩=some vb∧wx.cell? ⟨g,3,none⟩=some vp∧wx.cell? ⟨g,4,none⟩=some vq∧g<wx.heap.size):=Za fun wx hx=>by have h:=hH.below hx hH.lt;exact⟨h.cell 1,h.cell 2,h.cell 3,h.cell 4,h.lt⟩
  have hU':=Za hU;have c1:=Za (fun(w:World) (B:Nat) (c:List S)=>iJ F gu a l w0 e1 w B c va ha);have c2:=Za (fun(w:World) (B:Nat) (c:List S)=>iJ F gu a l w0 e2 w B c vb hb);have c3:=Za (fun(w:World) (B:Nat) (c:List S)=>oI F gu a l w0 p w B c vp hp);have c4:=Za (fun(w:World) (B:Nat) (c:List S)=>oI F gu a l w0 q w B c vq hq);have hE:Hid (cnL (Cn.mk kd e1 e2 p q nm)=exL e1++(exL e2++(cnL p++cnL q))):=Za rfl
  have hl:(cnL (Cn.mk kd e1 e2 p q nm)).length=(exL e1).length+(exL e2).length+(cnL p).length+(cnL q).length:=by rw[hE.out];simp;omega
  rw[hl]at hB;have hB':=Za hB;have hl':=Za hl;clear hH ha hb hp hq hB hU hl;obtain⟨q1,q2,q3,q4,ql⟩:=hfc.out w hU'.out.bl;go_enter Tryz.func103,Tryz.ntmps103;go_wp2_with fail;refine(c1.out w _ _ hU'.out (by have:=hB'.out;omega)).mono ?_;rintro e5 w5 ⟨rfl,hU5,hW5⟩;clear q1 q2 q3 q4 ql;obtain⟨q1,q2,q3,q4,ql⟩:=hfc.out w5 hU5.bl;replace hU5:=Za hU5;replace hW5:=Za hW5;go_wp2_with fail;refine(c2.out w5 _ _ hU5.out (by have:=hB'.out;omega)).mono ?_;rintro e6 w6 ⟨rfl,hU6,hW6⟩;clear q1 q2 q3 q4 ql;obtain⟨q1,q2,q3,q4,ql⟩:=hfc.out w6 hU6.bl;replace hU6:=Za hU6;replace hW6:=Za hW6;go_wp2_with fail;refine(c3.out w6 _ _ hU6.out (by have:=hB'.out;omega)).mono ?_;rintro e7 w7 ⟨rfl,hU7,hW7⟩;clear q1 q2 q3 q4 ql;obtain⟨q1,q2,q3,q4,ql⟩:=hfc.out w7 hU7.bl;replace hU7:=Za hU7;replace hW7:=Za hW7;go_wp2_with fail;refine(c4.out w7 _ _ hU7.out (by have:=hB'.out;omega)).mono ?_;rintro e8 w8 ⟨rfl,hU8,hW8⟩;replace hU8:=Za hU8;replace hW8:=Za hW8;clear q1 q2 q3 q4 ql;go_wp2_with fail;go_end0
  exact⟨rfl,hU8.out.eq (by rw[hl'.out];omega) (by rw[hE.out,List.foldl_append,List.foldl_append,List.foldl_append]),((hW5.out.trans hW6.out).trans hW7.out).trans hW8.out⟩
theorem AO (F:FnV) (w:World) (k:Nat) (hx hy:List UInt8) (he hf:Ex) (hc:Cn) (hg:List Ag) (ha:Nat) (hk:k=1∨k=2∨k=3∨k=4) (pe pf pc Aa At Al:Option Addr) (na ca nt ct nl cl:Nat) (S:Nat→Prop) (hF:F.ok w) (H:dn w S ⟨k,hx,hy,he,hf,hc,hg,ha⟩ (.pointer pe) (.pointer pf) (.pointer pc) (.slice Aa na ca)):
  Calls Tryz.prog 93 #[.agg F.cells,.agg (stC ⟨k,hx,hy,he,hf,hc,hg,ha⟩ pe pf pc Aa At Al na ca nt ct nl cl)] w (qH S F.K ⟨k,hx,hy,he,hf,hc,hg,ha⟩ At Al nt ct nl cl w):=by
 have hkx:=Za (fO (F.ps++F.ls) hx);have hky:=Za (fO (F.ps++F.ls) hy);obtain⟨w3,hw3⟩:∃y,y=((w.alloc (.cells F.cells 26)).alloc (.cells (stC ⟨k,hx,hy,he,hf,hc,hg,ha⟩ pe pf pc Aa At Al na ca nt ct nl cl) 63)).alloc (.cells zeroS 63):=⟨_,rfl⟩;obtain⟨g,hg'⟩:∃y,y=w.heap.size:=⟨_,rfl⟩;obtain⟨gs,hgs⟩:∃y,y=w.heap.size+1:=⟨_,rfl⟩;obtain⟨gr,hgr⟩:∃y,y=w.heap.size+2:=⟨_,rfl⟩
 have hb3:Below w.heap.size w w3:=by rw[hw3];exact(((Below.refl _ _).alloc (Nat.le_refl _) _).alloc (by simp) _).alloc (by simp;omega) _
 have e1:(w.alloc (.cells F.cells 26)).heap.size=w.heap.size+1:=by simp
 have e2:((w.alloc (.cells F.cells 26)).alloc (.cells (stC ⟨k,hx,hy,he,hf,hc,hg,ha⟩ pe pf pc Aa At Al na ca nt ct nl cl) 63)).heap.size=w.heap.size+2:=by simp
 obtain⟨wW,hwW⟩:∃y,y=w3.drew:=⟨_,rfl⟩
 have hB:StB S F ⟨k,hx,hy,he,hf,hc,hg,ha⟩ pe pf pc Aa na ca (stC ⟨k,hx,hy,he,hf,hc,hg,ha⟩ pe pf pc Aa At Al na ca nt ct nl cl) g gs gr w w3:=by
  refine⟨⟨?_,hF.below hb3,hb3⟩,?_,?_,?_,by omega,by omega⟩
  ·rw[hw3,hg'];exact((Holds.new w _ _).alloc _).alloc _
  ·have h1:=(Holds.new (w.alloc (.cells F.cells 26)) 63 (stC ⟨k,hx,hy,he,hf,hc,hg,ha⟩ pe pf pc Aa At Al na ca nt ct nl cl)).alloc (.cells zeroS 63);rw[e1]at h1;rw[hw3,hgs];exact h1
  ·have h1:=Holds.new ((w.alloc (.cells F.cells 26)).alloc (.cells (stC ⟨k,hx,hy,he,hf,hc,hg,ha⟩ pe pf pc Aa At Al na ca nt ct nl cl) 63)) 63 zeroS;rw[e2]at h1;rw[hw3,hgr];exact h1
  ·exact(H.mono (S':=Apt S gs gr w.heap.size) fun x hx hS=>⟨by omega,by omega,.inl hS⟩).below hb3
 have hbd:Below w3.heap.size w3 wW:=by rw[hwW];exact(Below.refl _ w3).drew
 have hBW:=Za (hB.below hbd);have ck:=Za fun z (w:World) (hb:Below wW.heap.size wW w)=>fE F w (hBW.out.rf.ok.below hb) z;have hfc:Hid (∀w':World,Below wW.heap.size wW w'→_):=Za fun w' hb=>(hBW.out.below hb).facts;have hgo:Hid (Below wW.heap.size wW w3.drew):=Za (by rw[←hwW];exact Below.refl _ _);have hfo:=Za hw3.symm;have h1':=Za hg'.symm;have h2':=Za hgs.symm;have h3':=Za (show w.heap.size+1+1=gr by omega);unfold FnV.cells at ck;unfold FnV.cells stC zeroS at hfo;clear hw3 hg' hgs hgr hb3 e1 e2 hwW hB hbd hF H;unfold FnV.cells stC;go_enter Tryz.func93,Tryz.ntmps93;go_upto_region 1 with(fail);rw[hfo.out,h3'.out,h2'.out,h1'.out];clear hfo h1' h2' h3'
 refine aC ((eqv (.agg #[.string (ay F.nm),.slice F.A1 F.ps.length F.c1,.slice F.A2 F.ls.length F.c2,.slice F.A3 F.n3 F.c3]))::(eqv (.pointer (some ⟨gs,1,none⟩)))::(eqv (.string (ay hx)))::(eqv (.int .i64 (F.K hx)))::(eqv (.agg #[.string (ay F.nm),.slice F.A1 F.ps.length F.c1,.slice F.A2 F.ls.length F.c2,.slice F.A3 F.n3 F.c3]))::(eqv (.pointer (some ⟨gs,2,none⟩)))::(eqv (.string (ay hy)))::(eqv (.int .i64 (F.K hy)))::(eqv (.int .i64 (F.K hx)))::(eqv (.int .i64 (F.K hy)))::[])
  ((rn1 2)::(rn1 3)::(rd1 12 1)::⟨[(11,some 0),(13,some 2)],0,[]⟩::(rn1 2)::(rn1 3)::(rd1 16 5)::⟨[(15,some 4),(17,some 6)],0,[]⟩::(rd1 14 3)::(rd1 18 7)::[])
  (no::no::no::no::no::no::so 8::so 9::no::no::no::so 0::so 1::so 2::so 3::so 4::so 5::so 6::so 7::[])
  (fun _ w'=>Below wW.heap.size wW w') (fun _ w w'=>Below w.heap.size w w') ?mixK1st1 ?okK1st1 ?tabK1st1 ?frK1st1 ?inK1st1 ?keptK1st1 ?startK1st1 ?eachK1st1 ?finK1st1
 case mixK1st1|okK1st1|tabK1st1|frK1st1=>kernel_rfl
 case inK1st1=>rfl
 case keptK1st1=>((repeat refine⟨fun _ _ _ _ _ _ _ _ _ _ _ h=>h,?_⟩);exact trivial)
 case startK1st1=>exact hgo.out
 case eachK1st1=>
  repeat' first|exact trivial|refine And.intro ?_ ?_
  iterate 3 (intro w L f hC hLi hLd hLn ⟨a,_⟩;change _=_ at a;refine au.live rfl ?_;obtain⟨⟨p0,p1,p2,p3,pl⟩,s0,s1,s2,s3,s4,s5,s6,s7,s8,s9,sl⟩:=hfc.out w hC;obtain⟨ev,ec,ef⟩:=evs f;refine aj ?_ hC (Below.refl _ _) rfl;go_simp)
  ·intro w L f hC hLi hLd hLn ⟨a,b,_⟩;change _=_ at a b;refine au.live rfl ?_;obtain⟨ev,ec,ef⟩:=evs f;refine aF (f:=142) (args:= #[.agg #[.string (ay F.nm),.slice F.A1 F.ps.length F.c1,.slice F.A2 F.ls.length F.c2,.slice F.A3 F.n3 F.c3],.string (ay hx)]) (w:=w) (by go_simp) (ck.out hx w hC) ?_;rintro e w1 ⟨he,hB⟩;exact⟨_,he,hC.trans (hB.mono hC.size),hB,rfl⟩
  iterate 3 (intro w L f hC hLi hLd hLn ⟨a,_⟩;change _=_ at a;refine au.live rfl ?_;obtain⟨⟨p0,p1,p2,p3,pl⟩,s0,s1,s2,s3,s4,s5,s6,s7,s8,s9,sl⟩:=hfc.out w hC;obtain⟨ev,ec,ef⟩:=evs f;refine aj ?_ hC (Below.refl _ _) rfl;go_simp)
  ·intro w L f hC hLi hLd hLn ⟨a,b,_⟩;change _=_ at a b;refine au.live rfl ?_;obtain⟨ev,ec,ef⟩:=evs f;refine aF (f:=142) (args:= #[.agg #[.string (ay F.nm),.slice F.A1 F.ps.length F.c1,.slice F.A2 F.ls.length F.c2,.slice F.A3 F.n3 F.c3],.string (ay hy)]) (w:=w) (by go_simp) (ck.out hy w hC) ?_;rintro e w1 ⟨he,hB⟩;exact⟨_,he,hC.trans (hB.mono hC.size),hB,rfl⟩
  ·intro w L f hC hLi hLd hLn ⟨d,_⟩;refine au.live rfl ?_;exact aj (v:=f 14) rfl (hC) (Below.refl _ _) d
  ·intro w L f hC hLi hLd hLn ⟨d,_⟩;refine au.live rfl ?_;exact aj (v:=f 18) rfl (hC) (Below.refl _ _) d
 intro x w' hC hV
 have x6:=hV 8 _ rfl rfl;have x7:=hV 9 _ rfl rfl;have hB1:=Za (hBW.out.below hC);clear hV hC hBW ck hfc hgo;simp only[framed];rw[x6,x7];clear x6 x7;have hkx2:Hid (F.K hx=0∨F.K hx=1∨F.K hx=2):=hkx;have hky2:Hid (F.K hy=0∨F.K hy=1∨F.K hy=2):=hky;obtain⟨kx,hex⟩:∃y,y=F.K hx:=⟨_,rfl⟩;obtain⟨ky,hey⟩:∃y,y=F.K hy:=⟨_,rfl⟩;rw[←hex]at hkx2⊢;rw[←hey]at hky2⊢;have hX:=Za hex;have hY:=Za hey;obtain⟨wz,hwz⟩:∃y,y=w':=⟨_,rfl⟩;rw[←hwz]at hB1⊢;clear hex hey hkx hky hwz;obtain⟨⟨p0,p1,p2,p3,pl⟩,⟨s0,s1,s2,s3,s4,s5,s6,s7,s8,s9,sl⟩⟩:=hB1.out.facts;obtain⟨r0,r1,r2,r3,r4,r5,r6,r7,r8,r9,rl,rf⟩:=hB1.out.fr;have f0:=rf.out 0;have f1:=rf.out 1;have f2:=rf.out 2;have f3:=rf.out 3;have f4:=rf.out 4;have f5:=rf.out 5;have f6:=rf.out 6;have f7:=rf.out 7;have f8:=rf.out 8;have f9:=rf.out 9;rcases hk with rfl|rfl|rfl|rfl
 all_goals
  rcases hkx2.out with rfl|rfl|rfl
  all_goals
   rcases hky2.out with rfl|rfl|rfl
   all_goals
    go_wp2_with fail;exact StB.fin hB1.out ⟨_,hx,hy,he,hf,hc,hg,ha⟩ (by simp[aS,←hX.out,←hY.out]) (fun hh=>⟨by simp[aS],by simp[turned]⟩) rfl rfl rfl rfl Tryz.underlying63 Tryz.sStmt
theorem AP (F:FnV) (w:World) (k:Nat) (hx hy:List UInt8) (he hf:Ex) (hc:Cn) (hg:List Ag) (ha:Nat) (hk:k=5∨k=6∨k=7∨k=9) (pe pf pc Aa At Al:Option Addr) (na ca nt ct nl cl:Nat) (S:Nat→Prop) (hF:F.ok w) (H:dn w S ⟨k,hx,hy,he,hf,hc,hg,ha⟩ (.pointer pe) (.pointer pf) (.pointer pc) (.slice Aa na ca)):
  Calls Tryz.prog 93 #[.agg F.cells,.agg (stC ⟨k,hx,hy,he,hf,hc,hg,ha⟩ pe pf pc Aa At Al na ca nt ct nl cl)] w (qH S F.K ⟨k,hx,hy,he,hf,hc,hg,ha⟩ At Al nt ct nl cl w):=by
 have hkx:=Za (fO (F.ps++F.ls) hx);have hky:=Za (fO (F.ps++F.ls) hy);obtain⟨w3,hw3⟩:∃y,y=((w.alloc (.cells F.cells 26)).alloc (.cells (stC ⟨k,hx,hy,he,hf,hc,hg,ha⟩ pe pf pc Aa At Al na ca nt ct nl cl) 63)).alloc (.cells zeroS 63):=⟨_,rfl⟩;obtain⟨g,hg'⟩:∃y,y=w.heap.size:=⟨_,rfl⟩;obtain⟨gs,hgs⟩:∃y,y=w.heap.size+1:=⟨_,rfl⟩;obtain⟨gr,hgr⟩:∃y,y=w.heap.size+2:=⟨_,rfl⟩
 have hb3:Below w.heap.size w w3:=by rw[hw3];exact(((Below.refl _ _).alloc (Nat.le_refl _) _).alloc (by simp) _).alloc (by simp;omega) _
 have e1:(w.alloc (.cells F.cells 26)).heap.size=w.heap.size+1:=by simp
 have e2:((w.alloc (.cells F.cells 26)).alloc (.cells (stC ⟨k,hx,hy,he,hf,hc,hg,ha⟩ pe pf pc Aa At Al na ca nt ct nl cl) 63)).heap.size=w.heap.size+2:=by simp
 obtain⟨wW,hwW⟩:∃y,y=w3.drew:=⟨_,rfl⟩
 have hB:StB S F ⟨k,hx,hy,he,hf,hc,hg,ha⟩ pe pf pc Aa na ca (stC ⟨k,hx,hy,he,hf,hc,hg,ha⟩ pe pf pc Aa At Al na ca nt ct nl cl) g gs gr w w3:=by
  refine⟨⟨?_,hF.below hb3,hb3⟩,?_,?_,?_,by omega,by omega⟩
  ·rw[hw3,hg'];exact((Holds.new w _ _).alloc _).alloc _
  ·have h1:=(Holds.new (w.alloc (.cells F.cells 26)) 63 (stC ⟨k,hx,hy,he,hf,hc,hg,ha⟩ pe pf pc Aa At Al na ca nt ct nl cl)).alloc (.cells zeroS 63);rw[e1]at h1;rw[hw3,hgs];exact h1
  ·have h1:=Holds.new ((w.alloc (.cells F.cells 26)).alloc (.cells (stC ⟨k,hx,hy,he,hf,hc,hg,ha⟩ pe pf pc Aa At Al na ca nt ct nl cl) 63)) 63 zeroS;rw[e2]at h1;rw[hw3,hgr];exact h1
  ·exact(H.mono (S':=Apt S gs gr w.heap.size) fun x hx hS=>⟨by omega,by omega,.inl hS⟩).below hb3
 have hbd:Below w3.heap.size w3 wW:=by rw[hwW];exact(Below.refl _ w3).drew
 have hBW:=Za (hB.below hbd);have ck:=Za fun z (w:World) (hb:Below wW.heap.size wW w)=>fE F w (hBW.out.rf.ok.below hb) z;have hfc:Hid (∀w':World,Below wW.heap.size wW w'→_):=Za fun w' hb=>(hBW.out.below hb).facts;have hgo:Hid (Below wW.heap.size wW w3.drew):=Za (by rw[←hwW];exact Below.refl _ _);have hfo:=Za hw3.symm;have h1':=Za hg'.symm;have h2':=Za hgs.symm;have h3':=Za (show w.heap.size+1+1=gr by omega);unfold FnV.cells at ck;unfold FnV.cells stC zeroS at hfo;clear hw3 hg' hgs hgr hb3 e1 e2 hwW hB hbd hF H;unfold FnV.cells stC;go_enter Tryz.func93,Tryz.ntmps93;go_upto_region 1 with(fail);rw[hfo.out,h3'.out,h2'.out,h1'.out];clear hfo h1' h2' h3'
 refine aC ((eqv (.agg #[.string (ay F.nm),.slice F.A1 F.ps.length F.c1,.slice F.A2 F.ls.length F.c2,.slice F.A3 F.n3 F.c3]))::(eqv (.pointer (some ⟨gs,1,none⟩)))::(eqv (.string (ay hx)))::(eqv (.int .i64 (F.K hx)))::(eqv (.agg #[.string (ay F.nm),.slice F.A1 F.ps.length F.c1,.slice F.A2 F.ls.length F.c2,.slice F.A3 F.n3 F.c3]))::(eqv (.pointer (some ⟨gs,2,none⟩)))::(eqv (.string (ay hy)))::(eqv (.int .i64 (F.K hy)))::(eqv (.int .i64 (F.K hx)))::(eqv (.int .i64 (F.K hy)))::[])
  ((rn1 2)::(rn1 3)::(rd1 12 1)::⟨[(11,some 0),(13,some 2)],0,[]⟩::(rn1 2)::(rn1 3)::(rd1 16 5)::⟨[(15,some 4),(17,some 6)],0,[]⟩::(rd1 14 3)::(rd1 18 7)::[])
  (no::no::no::no::no::no::so 8::so 9::no::no::no::so 0::so 1::so 2::so 3::so 4::so 5::so 6::so 7::[])
  (fun _ w'=>Below wW.heap.size wW w') (fun _ w w'=>Below w.heap.size w w') ?mixK1st1 ?okK1st1 ?tabK1st1 ?frK1st1 ?inK1st1 ?keptK1st1 ?startK1st1 ?eachK1st1 ?finK1st1
 case mixK1st1|okK1st1|tabK1st1|frK1st1=>kernel_rfl
 case inK1st1=>rfl
 case keptK1st1=>((repeat refine⟨fun _ _ _ _ _ _ _ _ _ _ _ h=>h,?_⟩);exact trivial)
 case startK1st1=>exact hgo.out
 case eachK1st1=>
  repeat' first|exact trivial|refine And.intro ?_ ?_
  iterate 3 (intro w L f hC hLi hLd hLn ⟨a,_⟩;change _=_ at a;refine au.live rfl ?_;obtain⟨⟨p0,p1,p2,p3,pl⟩,s0,s1,s2,s3,s4,s5,s6,s7,s8,s9,sl⟩:=hfc.out w hC;obtain⟨ev,ec,ef⟩:=evs f;refine aj ?_ hC (Below.refl _ _) rfl;go_simp)
  ·intro w L f hC hLi hLd hLn ⟨a,b,_⟩;change _=_ at a b;refine au.live rfl ?_;obtain⟨ev,ec,ef⟩:=evs f;refine aF (f:=142) (args:= #[.agg #[.string (ay F.nm),.slice F.A1 F.ps.length F.c1,.slice F.A2 F.ls.length F.c2,.slice F.A3 F.n3 F.c3],.string (ay hx)]) (w:=w) (by go_simp) (ck.out hx w hC) ?_;rintro e w1 ⟨he,hB⟩;exact⟨_,he,hC.trans (hB.mono hC.size),hB,rfl⟩
  iterate 3 (intro w L f hC hLi hLd hLn ⟨a,_⟩;change _=_ at a;refine au.live rfl ?_;obtain⟨⟨p0,p1,p2,p3,pl⟩,s0,s1,s2,s3,s4,s5,s6,s7,s8,s9,sl⟩:=hfc.out w hC;obtain⟨ev,ec,ef⟩:=evs f;refine aj ?_ hC (Below.refl _ _) rfl;go_simp)
  ·intro w L f hC hLi hLd hLn ⟨a,b,_⟩;change _=_ at a b;refine au.live rfl ?_;obtain⟨ev,ec,ef⟩:=evs f;refine aF (f:=142) (args:= #[.agg #[.string (ay F.nm),.slice F.A1 F.ps.length F.c1,.slice F.A2 F.ls.length F.c2,.slice F.A3 F.n3 F.c3],.string (ay hy)]) (w:=w) (by go_simp) (ck.out hy w hC) ?_;rintro e w1 ⟨he,hB⟩;exact⟨_,he,hC.trans (hB.mono hC.size),hB,rfl⟩
  ·intro w L f hC hLi hLd hLn ⟨d,_⟩;refine au.live rfl ?_;exact aj (v:=f 14) rfl (hC) (Below.refl _ _) d
  ·intro w L f hC hLi hLd hLn ⟨d,_⟩;refine au.live rfl ?_;exact aj (v:=f 18) rfl (hC) (Below.refl _ _) d
 intro x w' hC hV
 have x6:=hV 8 _ rfl rfl;have x7:=hV 9 _ rfl rfl;have hB1:=Za (hBW.out.below hC);clear hV hC hBW ck hfc hgo;simp only[framed];rw[x6,x7];clear x6 x7;have hkx2:Hid (F.K hx=0∨F.K hx=1∨F.K hx=2):=hkx;have hky2:Hid (F.K hy=0∨F.K hy=1∨F.K hy=2):=hky;obtain⟨kx,hex⟩:∃y,y=F.K hx:=⟨_,rfl⟩;obtain⟨ky,hey⟩:∃y,y=F.K hy:=⟨_,rfl⟩;rw[←hex]at hkx2⊢;rw[←hey]at hky2⊢;have hX:=Za hex;have hY:=Za hey;obtain⟨wz,hwz⟩:∃y,y=w':=⟨_,rfl⟩;rw[←hwz]at hB1⊢;clear hex hey hkx hky hwz;rcases hk with rfl|rfl|rfl|rfl
 ·rcases hkx2.out with rfl|rfl|rfl
  ·obtain⟨⟨p0,p1,p2,p3,pl⟩,⟨s0,s1,s2,s3,s4,s5,s6,s7,s8,s9,sl⟩⟩:=hB1.out.facts;obtain⟨r0,r1,r2,r3,r4,r5,r6,r7,r8,r9,rl,rf⟩:=hB1.out.fr;have f0:=rf.out 0;have f1:=rf.out 1;have f2:=rf.out 2;have f3:=rf.out 3;have f4:=rf.out 4;have f5:=rf.out 5;have f6:=rf.out 6;have f7:=rf.out 7;have f8:=rf.out 8;have f9:=rf.out 9;go_wp2_with fail;exact StB.fin hB1.out ⟨_,hx,hy,he,hf,hc,hg,ha⟩ (by simp[aS,←hX.out]) (fun hh=>⟨by simp[aS],by simp[turned]⟩) rfl rfl rfl rfl Tryz.underlying63 Tryz.sStmt
  ·obtain⟨⟨p0,p1,p2,p3,pl⟩,⟨s0,s1,s2,s3,s4,s5,s6,s7,s8,s9,sl⟩⟩:=hB1.out.facts;obtain⟨r0,r1,r2,r3,r4,r5,r6,r7,r8,r9,rl,rf⟩:=hB1.out.fr;have f0:=rf.out 0;have f1:=rf.out 1;have f2:=rf.out 2;have f3:=rf.out 3;have f4:=rf.out 4;have f5:=rf.out 5;have f6:=rf.out 6;have f7:=rf.out 7;have f8:=rf.out 8;have f9:=rf.out 9;go_wp2_with fail;exact StB.fin hB1.out ⟨_,hx,hy,he,hf,hc,hg,ha⟩ (by simp[aS,←hX.out]) (fun hh=>⟨by simp[aS],by simp[turned]⟩) rfl rfl rfl rfl Tryz.underlying63 Tryz.sStmt
  ·have cw5:=Za (eG F he wz _ hB1.out.rf.ok hB1.out.gx.e);unfold FnV.cells at cw5;obtain⟨⟨p0,p1,p2,p3,pl⟩,⟨s0,s1,s2,s3,s4,s5,s6,s7,s8,s9,sl⟩⟩:=hB1.out.facts;go_wp2_with fail;refine cw5.out.mono ?_;clear cw5 p0 p1 p2 p3 pl s0 s1 s2 s3 s4 s5 s6 s7 s8 s9 sl;rintro ew5 w5 ⟨rfl,hbw5⟩;have hB5:=Za (hB1.out.below hbw5);clear hbw5;obtain⟨⟨p0,p1,p2,p3,pl⟩,⟨s0,s1,s2,s3,s4,s5,s6,s7,s8,s9,sl⟩⟩:=hB5.out.facts;obtain⟨r0,r1,r2,r3,r4,r5,r6,r7,r8,r9,rl,rf⟩:=hB5.out.fr;have f0:=rf.out 0;have f1:=rf.out 1;have f2:=rf.out 2;have f3:=rf.out 3;have f4:=rf.out 4;have f5:=rf.out 5;have f6:=rf.out 6;have f7:=rf.out 7;have f8:=rf.out 8;have f9:=rf.out 9;go_wp2_with fail;exact StB.fin hB5.out ⟨_,hx,hy,he,hf,hc,hg,ha⟩ (by simp[aS,←hX.out]) (fun hh=>⟨by simp[aS],by simp[turned]⟩) rfl rfl rfl rfl Tryz.underlying63 Tryz.sStmt
 ·rcases hkx2.out with rfl|rfl|rfl
  ·rcases hky2.out with rfl|rfl|rfl
   ·have cw5:=Za (eG F he wz _ hB1.out.rf.ok hB1.out.gx.e);unfold FnV.cells at cw5;obtain⟨⟨p0,p1,p2,p3,pl⟩,⟨s0,s1,s2,s3,s4,s5,s6,s7,s8,s9,sl⟩⟩:=hB1.out.facts;go_wp2_with fail;refine cw5.out.mono ?_;clear cw5 p0 p1 p2 p3 pl s0 s1 s2 s3 s4 s5 s6 s7 s8 s9 sl;rintro ew5 w5 ⟨rfl,hbw5⟩;have hB5:=Za (hB1.out.below hbw5);clear hbw5;obtain⟨⟨p0,p1,p2,p3,pl⟩,⟨s0,s1,s2,s3,s4,s5,s6,s7,s8,s9,sl⟩⟩:=hB5.out.facts;obtain⟨r0,r1,r2,r3,r4,r5,r6,r7,r8,r9,rl,rf⟩:=hB5.out.fr;have f0:=rf.out 0;have f1:=rf.out 1;have f2:=rf.out 2;have f3:=rf.out 3;have f4:=rf.out 4;have f5:=rf.out 5;have f6:=rf.out 6;have f7:=rf.out 7;have f8:=rf.out 8;have f9:=rf.out 9;go_wp2_with fail;exact StB.fin hB5.out ⟨_,hx,hy,he,hf,hc,hg,ha⟩ (by simp[aS,←hX.out,←hY.out]) (fun hh=>⟨by simp[aS],by simp[turned]⟩) rfl rfl rfl rfl Tryz.underlying63 Tryz.sStmt
   ·obtain⟨⟨p0,p1,p2,p3,pl⟩,⟨s0,s1,s2,s3,s4,s5,s6,s7,s8,s9,sl⟩⟩:=hB1.out.facts;obtain⟨r0,r1,r2,r3,r4,r5,r6,r7,r8,r9,rl,rf⟩:=hB1.out.fr;have f0:=rf.out 0;have f1:=rf.out 1;have f2:=rf.out 2;have f3:=rf.out 3;have f4:=rf.out 4;have f5:=rf.out 5;have f6:=rf.out 6;have f7:=rf.out 7;have f8:=rf.out 8;have f9:=rf.out 9;go_wp2_with fail;exact StB.fin hB1.out ⟨_,hx,hy,he,hf,hc,hg,ha⟩ (by simp[aS,←hY.out]) (fun hh=>⟨by simp[aS],by simp[turned]⟩) rfl rfl rfl rfl Tryz.underlying63 Tryz.sStmt
   ·obtain⟨⟨p0,p1,p2,p3,pl⟩,⟨s0,s1,s2,s3,s4,s5,s6,s7,s8,s9,sl⟩⟩:=hB1.out.facts;obtain⟨r0,r1,r2,r3,r4,r5,r6,r7,r8,r9,rl,rf⟩:=hB1.out.fr;have f0:=rf.out 0;have f1:=rf.out 1;have f2:=rf.out 2;have f3:=rf.out 3;have f4:=rf.out 4;have f5:=rf.out 5;have f6:=rf.out 6;have f7:=rf.out 7;have f8:=rf.out 8;have f9:=rf.out 9;go_wp2_with fail;exact StB.fin hB1.out ⟨_,hx,hy,he,hf,hc,hg,ha⟩ (by simp[aS,←hY.out]) (fun hh=>⟨by simp[aS],by simp[turned]⟩) rfl rfl rfl rfl Tryz.underlying63 Tryz.sStmt
  ·rcases hky2.out with rfl|rfl|rfl
   ·have cw5:=Za (eG F he wz _ hB1.out.rf.ok hB1.out.gx.e);unfold FnV.cells at cw5;obtain⟨⟨p0,p1,p2,p3,pl⟩,⟨s0,s1,s2,s3,s4,s5,s6,s7,s8,s9,sl⟩⟩:=hB1.out.facts;go_wp2_with fail;refine cw5.out.mono ?_;clear cw5 p0 p1 p2 p3 pl s0 s1 s2 s3 s4 s5 s6 s7 s8 s9 sl;rintro ew5 w5 ⟨rfl,hbw5⟩;have hB5:=Za (hB1.out.below hbw5);clear hbw5;obtain⟨⟨p0,p1,p2,p3,pl⟩,⟨s0,s1,s2,s3,s4,s5,s6,s7,s8,s9,sl⟩⟩:=hB5.out.facts;obtain⟨r0,r1,r2,r3,r4,r5,r6,r7,r8,r9,rl,rf⟩:=hB5.out.fr;have f0:=rf.out 0;have f1:=rf.out 1;have f2:=rf.out 2;have f3:=rf.out 3;have f4:=rf.out 4;have f5:=rf.out 5;have f6:=rf.out 6;have f7:=rf.out 7;have f8:=rf.out 8;have f9:=rf.out 9;go_wp2_with fail;exact StB.fin hB5.out ⟨_,hx,hy,he,hf,hc,hg,ha⟩ (by simp[aS,←hX.out,←hY.out]) (fun hh=>⟨by simp[aS],by simp[turned]⟩) rfl rfl rfl rfl Tryz.underlying63 Tryz.sStmt
   ·obtain⟨⟨p0,p1,p2,p3,pl⟩,⟨s0,s1,s2,s3,s4,s5,s6,s7,s8,s9,sl⟩⟩:=hB1.out.facts;obtain⟨r0,r1,r2,r3,r4,r5,r6,r7,r8,r9,rl,rf⟩:=hB1.out.fr;have f0:=rf.out 0;have f1:=rf.out 1;have f2:=rf.out 2;have f3:=rf.out 3;have f4:=rf.out 4;have f5:=rf.out 5;have f6:=rf.out 6;have f7:=rf.out 7;have f8:=rf.out 8;have f9:=rf.out 9;go_wp2_with fail;exact StB.fin hB1.out ⟨_,hx,hy,he,hf,hc,hg,ha⟩ (by simp[aS,←hY.out]) (fun hh=>⟨by simp[aS],by simp[turned]⟩) rfl rfl rfl rfl Tryz.underlying63 Tryz.sStmt
   ·obtain⟨⟨p0,p1,p2,p3,pl⟩,⟨s0,s1,s2,s3,s4,s5,s6,s7,s8,s9,sl⟩⟩:=hB1.out.facts;obtain⟨r0,r1,r2,r3,r4,r5,r6,r7,r8,r9,rl,rf⟩:=hB1.out.fr;have f0:=rf.out 0;have f1:=rf.out 1;have f2:=rf.out 2;have f3:=rf.out 3;have f4:=rf.out 4;have f5:=rf.out 5;have f6:=rf.out 6;have f7:=rf.out 7;have f8:=rf.out 8;have f9:=rf.out 9;go_wp2_with fail;exact StB.fin hB1.out ⟨_,hx,hy,he,hf,hc,hg,ha⟩ (by simp[aS,←hY.out]) (fun hh=>⟨by simp[aS],by simp[turned]⟩) rfl rfl rfl rfl Tryz.underlying63 Tryz.sStmt
  ·obtain⟨⟨p0,p1,p2,p3,pl⟩,⟨s0,s1,s2,s3,s4,s5,s6,s7,s8,s9,sl⟩⟩:=hB1.out.facts;obtain⟨r0,r1,r2,r3,r4,r5,r6,r7,r8,r9,rl,rf⟩:=hB1.out.fr;have f0:=rf.out 0;have f1:=rf.out 1;have f2:=rf.out 2;have f3:=rf.out 3;have f4:=rf.out 4;have f5:=rf.out 5;have f6:=rf.out 6;have f7:=rf.out 7;have f8:=rf.out 8;have f9:=rf.out 9;go_wp2_with fail;exact StB.fin hB1.out ⟨_,hx,hy,he,hf,hc,hg,ha⟩ (by simp[aS,←hX.out]) (fun hh=>⟨by simp[aS],by simp[turned]⟩) rfl rfl rfl rfl Tryz.underlying63 Tryz.sStmt
 ·rcases hky2.out with rfl|rfl|rfl
  ·have cw5:=Za (eG F he wz _ hB1.out.rf.ok hB1.out.gx.e);unfold FnV.cells at cw5;obtain⟨⟨p0,p1,p2,p3,pl⟩,⟨s0,s1,s2,s3,s4,s5,s6,s7,s8,s9,sl⟩⟩:=hB1.out.facts;go_wp2_with fail;refine cw5.out.mono ?_;clear cw5 p0 p1 p2 p3 pl s0 s1 s2 s3 s4 s5 s6 s7 s8 s9 sl;rintro ew5 w5 ⟨rfl,hbw5⟩;have hB5:=Za (hB1.out.below hbw5);clear hbw5
   cases hA:dJ F.K he with
   |false=>
    replace hA:=Za hA;obtain⟨⟨p0,p1,p2,p3,pl⟩,⟨s0,s1,s2,s3,s4,s5,s6,s7,s8,s9,sl⟩⟩:=hB5.out.facts;obtain⟨r0,r1,r2,r3,r4,r5,r6,r7,r8,r9,rl,rf⟩:=hB5.out.fr;have f0:=rf.out 0;have f1:=rf.out 1;have f2:=rf.out 2;have f3:=rf.out 3;have f4:=rf.out 4;have f5:=rf.out 5;have f6:=rf.out 6;have f7:=rf.out 7;have f8:=rf.out 8;have f9:=rf.out 9;go_wp2_with fail;exact StB.fin hB5.out ⟨_,hx,hy,he,hf,hc,hg,ha⟩ (by simp[aS,←hY.out,hA.out]) (fun hh=>⟨by simp[aS],by simp[turned]⟩) rfl rfl rfl rfl Tryz.underlying63 Tryz.sStmt
   |true=>
    replace hA:=Za hA;have cw6:=Za (eG F hf w5 _ hB5.out.rf.ok hB5.out.gx.f);unfold FnV.cells at cw6;obtain⟨⟨p0,p1,p2,p3,pl⟩,⟨s0,s1,s2,s3,s4,s5,s6,s7,s8,s9,sl⟩⟩:=hB5.out.facts;go_wp2_with fail;refine cw6.out.mono ?_;clear cw6 p0 p1 p2 p3 pl s0 s1 s2 s3 s4 s5 s6 s7 s8 s9 sl;rintro ew6 w6 ⟨rfl,hbw6⟩;have hB6:=Za (hB5.out.below hbw6);clear hbw6;obtain⟨⟨p0,p1,p2,p3,pl⟩,⟨s0,s1,s2,s3,s4,s5,s6,s7,s8,s9,sl⟩⟩:=hB6.out.facts;obtain⟨r0,r1,r2,r3,r4,r5,r6,r7,r8,r9,rl,rf⟩:=hB6.out.fr;have f0:=rf.out 0;have f1:=rf.out 1;have f2:=rf.out 2;have f3:=rf.out 3;have f4:=rf.out 4;have f5:=rf.out 5;have f6:=rf.out 6;have f7:=rf.out 7;have f8:=rf.out 8;have f9:=rf.out 9;go_wp2_with fail;exact StB.fin hB6.out ⟨_,hx,hy,he,hf,hc,hg,ha⟩ (by simp[aS,←hY.out,hA.out]) (fun hh=>⟨by simp[aS],by simp[turned]⟩) rfl rfl rfl rfl Tryz.underlying63 Tryz.sStmt
  ·obtain⟨⟨p0,p1,p2,p3,pl⟩,⟨s0,s1,s2,s3,s4,s5,s6,s7,s8,s9,sl⟩⟩:=hB1.out.facts;obtain⟨r0,r1,r2,r3,r4,r5,r6,r7,r8,r9,rl,rf⟩:=hB1.out.fr;have f0:=rf.out 0;have f1:=rf.out 1;have f2:=rf.out 2;have f3:=rf.out 3;have f4:=rf.out 4;have f5:=rf.out 5;have f6:=rf.out 6;have f7:=rf.out 7;have f8:=rf.out 8;have f9:=rf.out 9;go_wp2_with fail;exact StB.fin hB1.out ⟨_,hx,hy,he,hf,hc,hg,ha⟩ (by simp[aS,←hY.out]) (fun hh=>⟨by simp[aS],by simp[turned]⟩) rfl rfl rfl rfl Tryz.underlying63 Tryz.sStmt
  ·obtain⟨⟨p0,p1,p2,p3,pl⟩,⟨s0,s1,s2,s3,s4,s5,s6,s7,s8,s9,sl⟩⟩:=hB1.out.facts;obtain⟨r0,r1,r2,r3,r4,r5,r6,r7,r8,r9,rl,rf⟩:=hB1.out.fr;have f0:=rf.out 0;have f1:=rf.out 1;have f2:=rf.out 2;have f3:=rf.out 3;have f4:=rf.out 4;have f5:=rf.out 5;have f6:=rf.out 6;have f7:=rf.out 7;have f8:=rf.out 8;have f9:=rf.out 9;go_wp2_with fail;exact StB.fin hB1.out ⟨_,hx,hy,he,hf,hc,hg,ha⟩ (by simp[aS,←hY.out]) (fun hh=>⟨by simp[aS],by simp[turned]⟩) rfl rfl rfl rfl Tryz.underlying63 Tryz.sStmt
 ·have cw5:=Za (eG F he wz _ hB1.out.rf.ok hB1.out.gx.e);unfold FnV.cells at cw5;obtain⟨⟨p0,p1,p2,p3,pl⟩,⟨s0,s1,s2,s3,s4,s5,s6,s7,s8,s9,sl⟩⟩:=hB1.out.facts;go_wp2_with fail;refine cw5.out.mono ?_;clear cw5 p0 p1 p2 p3 pl s0 s1 s2 s3 s4 s5 s6 s7 s8 s9 sl;rintro ew5 w5 ⟨rfl,hbw5⟩;have hB5:=Za (hB1.out.below hbw5);clear hbw5;obtain⟨⟨p0,p1,p2,p3,pl⟩,⟨s0,s1,s2,s3,s4,s5,s6,s7,s8,s9,sl⟩⟩:=hB5.out.facts;obtain⟨r0,r1,r2,r3,r4,r5,r6,r7,r8,r9,rl,rf⟩:=hB5.out.fr;have f0:=rf.out 0;have f1:=rf.out 1;have f2:=rf.out 2;have f3:=rf.out 3;have f4:=rf.out 4;have f5:=rf.out 5;have f6:=rf.out 6;have f7:=rf.out 7;have f8:=rf.out 8;have f9:=rf.out 9;go_wp2_with fail;exact StB.fin hB5.out ⟨_,hx,hy,he,hf,hc,hg,ha⟩ (by simp[aS]) (fun hh=>⟨by simp[aS],by simp[turned]⟩) rfl rfl rfl rfl Tryz.underlying63 Tryz.sStmt
theorem yN (F:FnV) (w:World) (k:Nat) (hx hy:List UInt8) (he hf:Ex) (hc:Cn) (hg:List Ag) (ha:Nat) (hk:k=10∨k=11∨k=12) (pe pf pc Aa At Al:Option Addr) (na ca nt ct nl cl:Nat) (S:Nat→Prop) (hF:F.ok w) (H:dn w S ⟨k,hx,hy,he,hf,hc,hg,ha⟩ (.pointer pe) (.pointer pf) (.pointer pc) (.slice Aa na ca)):
  Calls Tryz.prog 93 #[.agg F.cells,.agg (stC ⟨k,hx,hy,he,hf,hc,hg,ha⟩ pe pf pc Aa At Al na ca nt ct nl cl)] w (qH S F.K ⟨k,hx,hy,he,hf,hc,hg,ha⟩ At Al nt ct nl cl w):=by
 have hkx:=Za (fO (F.ps++F.ls) hx);have hky:=Za (fO (F.ps++F.ls) hy);obtain⟨w3,hw3⟩:∃y,y=((w.alloc (.cells F.cells 26)).alloc (.cells (stC ⟨k,hx,hy,he,hf,hc,hg,ha⟩ pe pf pc Aa At Al na ca nt ct nl cl) 63)).alloc (.cells zeroS 63):=⟨_,rfl⟩;obtain⟨g,hg'⟩:∃y,y=w.heap.size:=⟨_,rfl⟩;obtain⟨gs,hgs⟩:∃y,y=w.heap.size+1:=⟨_,rfl⟩;obtain⟨gr,hgr⟩:∃y,y=w.heap.size+2:=⟨_,rfl⟩
 have hb3:Below w.heap.size w w3:=by rw[hw3];exact(((Below.refl _ _).alloc (Nat.le_refl _) _).alloc (by simp) _).alloc (by simp;omega) _
 have e1:(w.alloc (.cells F.cells 26)).heap.size=w.heap.size+1:=by simp
 have e2:((w.alloc (.cells F.cells 26)).alloc (.cells (stC ⟨k,hx,hy,he,hf,hc,hg,ha⟩ pe pf pc Aa At Al na ca nt ct nl cl) 63)).heap.size=w.heap.size+2:=by simp
 obtain⟨wW,hwW⟩:∃y,y=w3.drew:=⟨_,rfl⟩
 have hB:StB S F ⟨k,hx,hy,he,hf,hc,hg,ha⟩ pe pf pc Aa na ca (stC ⟨k,hx,hy,he,hf,hc,hg,ha⟩ pe pf pc Aa At Al na ca nt ct nl cl) g gs gr w w3:=by
  refine⟨⟨?_,hF.below hb3,hb3⟩,?_,?_,?_,by omega,by omega⟩
  ·rw[hw3,hg'];exact((Holds.new w _ _).alloc _).alloc _
  ·have h1:=(Holds.new (w.alloc (.cells F.cells 26)) 63 (stC ⟨k,hx,hy,he,hf,hc,hg,ha⟩ pe pf pc Aa At Al na ca nt ct nl cl)).alloc (.cells zeroS 63);rw[e1]at h1;rw[hw3,hgs];exact h1
  ·have h1:=Holds.new ((w.alloc (.cells F.cells 26)).alloc (.cells (stC ⟨k,hx,hy,he,hf,hc,hg,ha⟩ pe pf pc Aa At Al na ca nt ct nl cl) 63)) 63 zeroS;rw[e2]at h1;rw[hw3,hgr];exact h1
  ·exact(H.mono (S':=Apt S gs gr w.heap.size) fun x hx hS=>⟨by omega,by omega,.inl hS⟩).below hb3
 have hbd:Below w3.heap.size w3 wW:=by rw[hwW];exact(Below.refl _ w3).drew
 have hBW:=Za (hB.below hbd);have ck:=Za fun z (w:World) (hb:Below wW.heap.size wW w)=>fE F w (hBW.out.rf.ok.below hb) z;have hfc:Hid (∀w':World,Below wW.heap.size wW w'→_):=Za fun w' hb=>(hBW.out.below hb).facts;have hgo:Hid (Below wW.heap.size wW w3.drew):=Za (by rw[←hwW];exact Below.refl _ _);have hfo:=Za hw3.symm;have h1':=Za hg'.symm;have h2':=Za hgs.symm;have h3':=Za (show w.heap.size+1+1=gr by omega);unfold FnV.cells at ck;unfold FnV.cells stC zeroS at hfo;clear hw3 hg' hgs hgr hb3 e1 e2 hwW hB hbd hF H;unfold FnV.cells stC;go_enter Tryz.func93,Tryz.ntmps93;go_upto_region 1 with(fail);rw[hfo.out,h3'.out,h2'.out,h1'.out];clear hfo h1' h2' h3'
 refine aC ((eqv (.agg #[.string (ay F.nm),.slice F.A1 F.ps.length F.c1,.slice F.A2 F.ls.length F.c2,.slice F.A3 F.n3 F.c3]))::(eqv (.pointer (some ⟨gs,1,none⟩)))::(eqv (.string (ay hx)))::(eqv (.int .i64 (F.K hx)))::(eqv (.agg #[.string (ay F.nm),.slice F.A1 F.ps.length F.c1,.slice F.A2 F.ls.length F.c2,.slice F.A3 F.n3 F.c3]))::(eqv (.pointer (some ⟨gs,2,none⟩)))::(eqv (.string (ay hy)))::(eqv (.int .i64 (F.K hy)))::(eqv (.int .i64 (F.K hx)))::(eqv (.int .i64 (F.K hy)))::[])
  ((rn1 2)::(rn1 3)::(rd1 12 1)::⟨[(11,some 0),(13,some 2)],0,[]⟩::(rn1 2)::(rn1 3)::(rd1 16 5)::⟨[(15,some 4),(17,some 6)],0,[]⟩::(rd1 14 3)::(rd1 18 7)::[])
  (no::no::no::no::no::no::so 8::so 9::no::no::no::so 0::so 1::so 2::so 3::so 4::so 5::so 6::so 7::[])
  (fun _ w'=>Below wW.heap.size wW w') (fun _ w w'=>Below w.heap.size w w') ?mixK1st1 ?okK1st1 ?tabK1st1 ?frK1st1 ?inK1st1 ?keptK1st1 ?startK1st1 ?eachK1st1 ?finK1st1
 case mixK1st1|okK1st1|tabK1st1|frK1st1=>kernel_rfl
 case inK1st1=>rfl
 case keptK1st1=>((repeat refine⟨fun _ _ _ _ _ _ _ _ _ _ _ h=>h,?_⟩);exact trivial)
 case startK1st1=>exact hgo.out
 case eachK1st1=>
  repeat' first|exact trivial|refine And.intro ?_ ?_
  iterate 3 (intro w L f hC hLi hLd hLn ⟨a,_⟩;change _=_ at a;refine au.live rfl ?_;obtain⟨⟨p0,p1,p2,p3,pl⟩,s0,s1,s2,s3,s4,s5,s6,s7,s8,s9,sl⟩:=hfc.out w hC;obtain⟨ev,ec,ef⟩:=evs f;refine aj ?_ hC (Below.refl _ _) rfl;go_simp)
  ·intro w L f hC hLi hLd hLn ⟨a,b,_⟩;change _=_ at a b;refine au.live rfl ?_;obtain⟨ev,ec,ef⟩:=evs f;refine aF (f:=142) (args:= #[.agg #[.string (ay F.nm),.slice F.A1 F.ps.length F.c1,.slice F.A2 F.ls.length F.c2,.slice F.A3 F.n3 F.c3],.string (ay hx)]) (w:=w) (by go_simp) (ck.out hx w hC) ?_;rintro e w1 ⟨he,hB⟩;exact⟨_,he,hC.trans (hB.mono hC.size),hB,rfl⟩
  iterate 3 (intro w L f hC hLi hLd hLn ⟨a,_⟩;change _=_ at a;refine au.live rfl ?_;obtain⟨⟨p0,p1,p2,p3,pl⟩,s0,s1,s2,s3,s4,s5,s6,s7,s8,s9,sl⟩:=hfc.out w hC;obtain⟨ev,ec,ef⟩:=evs f;refine aj ?_ hC (Below.refl _ _) rfl;go_simp)
  ·intro w L f hC hLi hLd hLn ⟨a,b,_⟩;change _=_ at a b;refine au.live rfl ?_;obtain⟨ev,ec,ef⟩:=evs f;refine aF (f:=142) (args:= #[.agg #[.string (ay F.nm),.slice F.A1 F.ps.length F.c1,.slice F.A2 F.ls.length F.c2,.slice F.A3 F.n3 F.c3],.string (ay hy)]) (w:=w) (by go_simp) (ck.out hy w hC) ?_;rintro e w1 ⟨he,hB⟩;exact⟨_,he,hC.trans (hB.mono hC.size),hB,rfl⟩
  ·intro w L f hC hLi hLd hLn ⟨d,_⟩;refine au.live rfl ?_;exact aj (v:=f 14) rfl (hC) (Below.refl _ _) d
  ·intro w L f hC hLi hLd hLn ⟨d,_⟩;refine au.live rfl ?_;exact aj (v:=f 18) rfl (hC) (Below.refl _ _) d
 intro x w' hC hV
 have x6:=hV 8 _ rfl rfl;have x7:=hV 9 _ rfl rfl;have hB1:=Za (hBW.out.below hC);clear hV hC hBW ck hfc hgo;simp only[framed];rw[x6,x7];clear x6 x7;have hkx2:Hid (F.K hx=0∨F.K hx=1∨F.K hx=2):=hkx;have hky2:Hid (F.K hy=0∨F.K hy=1∨F.K hy=2):=hky;obtain⟨kx,hex⟩:∃y,y=F.K hx:=⟨_,rfl⟩;obtain⟨ky,hey⟩:∃y,y=F.K hy:=⟨_,rfl⟩;rw[←hex]at hkx2⊢;rw[←hey]at hky2⊢;have hX:=Za hex;have hY:=Za hey;obtain⟨wz,hwz⟩:∃y,y=w':=⟨_,rfl⟩;rw[←hwz]at hB1⊢;clear hex hey hkx hky hwz;rcases hk with rfl|rfl|rfl
 ·have cw5:=Za (kE F hc wz _ hB1.out.rf.ok hB1.out.gx.c);unfold FnV.cells at cw5;obtain⟨⟨p0,p1,p2,p3,pl⟩,⟨s0,s1,s2,s3,s4,s5,s6,s7,s8,s9,sl⟩⟩:=hB1.out.facts;go_wp2_with fail;refine cw5.out.mono ?_;clear cw5 p0 p1 p2 p3 pl s0 s1 s2 s3 s4 s5 s6 s7 s8 s9 sl;rintro ew5 w5 ⟨rfl,hbw5⟩;have hB5:=Za (hB1.out.below hbw5);clear hbw5;obtain⟨⟨p0,p1,p2,p3,pl⟩,⟨s0,s1,s2,s3,s4,s5,s6,s7,s8,s9,sl⟩⟩:=hB5.out.facts;obtain⟨r0,r1,r2,r3,r4,r5,r6,r7,r8,r9,rl,rf⟩:=hB5.out.fr;have f0:=rf.out 0;have f1:=rf.out 1;have f2:=rf.out 2;have f3:=rf.out 3;have f4:=rf.out 4;have f5:=rf.out 5;have f6:=rf.out 6;have f7:=rf.out 7;have f8:=rf.out 8;have f9:=rf.out 9;go_wp2_with fail;exact StB.fin hB5.out ⟨_,hx,hy,he,hf,hc,hg,ha⟩ (by simp[aS]) (fun hh=>⟨by simp[aS],by simp[turned]⟩) rfl rfl rfl rfl Tryz.underlying63 Tryz.sStmt
 ·have cw5:=Za (kE F hc wz _ hB1.out.rf.ok hB1.out.gx.c);unfold FnV.cells at cw5;obtain⟨⟨p0,p1,p2,p3,pl⟩,⟨s0,s1,s2,s3,s4,s5,s6,s7,s8,s9,sl⟩⟩:=hB1.out.facts;go_wp2_with fail;refine cw5.out.mono ?_;clear cw5 p0 p1 p2 p3 pl s0 s1 s2 s3 s4 s5 s6 s7 s8 s9 sl;rintro ew5 w5 ⟨rfl,hbw5⟩;have hB5:=Za (hB1.out.below hbw5);clear hbw5;obtain⟨⟨p0,p1,p2,p3,pl⟩,⟨s0,s1,s2,s3,s4,s5,s6,s7,s8,s9,sl⟩⟩:=hB5.out.facts;obtain⟨r0,r1,r2,r3,r4,r5,r6,r7,r8,r9,rl,rf⟩:=hB5.out.fr;have f0:=rf.out 0;have f1:=rf.out 1;have f2:=rf.out 2;have f3:=rf.out 3;have f4:=rf.out 4;have f5:=rf.out 5;have f6:=rf.out 6;have f7:=rf.out 7;have f8:=rf.out 8;have f9:=rf.out 9;go_wp2_with fail;exact StB.fin hB5.out ⟨_,hx,hy,he,hf,hc,hg,ha⟩ (by simp[aS]) (fun hh=>⟨by simp[aS],by simp[turned]⟩) rfl rfl rfl rfl Tryz.underlying63 Tryz.sStmt
 ·have cw5:=Za (kE F hc wz _ hB1.out.rf.ok hB1.out.gx.c);unfold FnV.cells at cw5;obtain⟨⟨p0,p1,p2,p3,pl⟩,⟨s0,s1,s2,s3,s4,s5,s6,s7,s8,s9,sl⟩⟩:=hB1.out.facts;go_wp2_with fail;refine cw5.out.mono ?_;clear cw5 p0 p1 p2 p3 pl s0 s1 s2 s3 s4 s5 s6 s7 s8 s9 sl;rintro ew5 w5 ⟨rfl,hbw5⟩;have hB5:=Za (hB1.out.below hbw5);clear hbw5;obtain⟨⟨p0,p1,p2,p3,pl⟩,⟨s0,s1,s2,s3,s4,s5,s6,s7,s8,s9,sl⟩⟩:=hB5.out.facts;obtain⟨r0,r1,r2,r3,r4,r5,r6,r7,r8,r9,rl,rf⟩:=hB5.out.fr;have f0:=rf.out 0;have f1:=rf.out 1;have f2:=rf.out 2;have f3:=rf.out 3;have f4:=rf.out 4;have f5:=rf.out 5;have f6:=rf.out 6;have f7:=rf.out 7;have f8:=rf.out 8;have f9:=rf.out 9;go_wp2_with fail;exact StB.fin hB5.out ⟨_,hx,hy,he,hf,hc,hg,ha⟩ (by simp[aS]) (fun hh=>⟨by simp[aS],by simp[turned]⟩) rfl rfl rfl rfl Tryz.underlying63 Tryz.sStmt
theorem yM (F:FnV) (w:World) (k:Nat) (hx hy:List UInt8) (he hf:Ex) (hc:Cn) (hg:List Ag) (ha:Nat) (hk:k=0) (pe pf pc Aa At Al:Option Addr) (na ca nt ct nl cl:Nat) (S:Nat→Prop) (hF:F.ok w) (H:dn w S ⟨k,hx,hy,he,hf,hc,hg,ha⟩ (.pointer pe) (.pointer pf) (.pointer pc) (.slice Aa na ca)):
  Calls Tryz.prog 93 #[.agg F.cells,.agg (stC ⟨k,hx,hy,he,hf,hc,hg,ha⟩ pe pf pc Aa At Al na ca nt ct nl cl)] w (qH S F.K ⟨k,hx,hy,he,hf,hc,hg,ha⟩ At Al nt ct nl cl w):=by
 replace hk:=Za hk;have hkx:=Za (fO (F.ps++F.ls) hx);have hky:=Za (fO (F.ps++F.ls) hy);obtain⟨w3,hw3⟩:∃y,y=((w.alloc (.cells F.cells 26)).alloc (.cells (stC ⟨k,hx,hy,he,hf,hc,hg,ha⟩ pe pf pc Aa At Al na ca nt ct nl cl) 63)).alloc (.cells zeroS 63):=⟨_,rfl⟩;obtain⟨g,hg'⟩:∃y,y=w.heap.size:=⟨_,rfl⟩;obtain⟨gs,hgs⟩:∃y,y=w.heap.size+1:=⟨_,rfl⟩;obtain⟨gr,hgr⟩:∃y,y=w.heap.size+2:=⟨_,rfl⟩
 have hb3:Below w.heap.size w w3:=by rw[hw3];exact(((Below.refl _ _).alloc (Nat.le_refl _) _).alloc (by simp) _).alloc (by simp;omega) _
 have e1:(w.alloc (.cells F.cells 26)).heap.size=w.heap.size+1:=by simp
 have e2:((w.alloc (.cells F.cells 26)).alloc (.cells (stC ⟨k,hx,hy,he,hf,hc,hg,ha⟩ pe pf pc Aa At Al na ca nt ct nl cl) 63)).heap.size=w.heap.size+2:=by simp
 obtain⟨wW,hwW⟩:∃y,y=w3.drew:=⟨_,rfl⟩
 have hB:StB S F ⟨k,hx,hy,he,hf,hc,hg,ha⟩ pe pf pc Aa na ca (stC ⟨k,hx,hy,he,hf,hc,hg,ha⟩ pe pf pc Aa At Al na ca nt ct nl cl) g gs gr w w3:=by
  refine⟨⟨?_,hF.below hb3,hb3⟩,?_,?_,?_,by omega,by omega⟩
  ·rw[hw3,hg'];exact((Holds.new w _ _).alloc _).alloc _
  ·have h1:=(Holds.new (w.alloc (.cells F.cells 26)) 63 (stC ⟨k,hx,hy,he,hf,hc,hg,ha⟩ pe pf pc Aa At Al na ca nt ct nl cl)).alloc (.cells zeroS 63);rw[e1]at h1;rw[hw3,hgs];exact h1
  ·have h1:=Holds.new ((w.alloc (.cells F.cells 26)).alloc (.cells (stC ⟨k,hx,hy,he,hf,hc,hg,ha⟩ pe pf pc Aa At Al na ca nt ct nl cl) 63)) 63 zeroS;rw[e2]at h1;rw[hw3,hgr];exact h1
  ·exact(H.mono (S':=Apt S gs gr w.heap.size) fun x hx hS=>⟨by omega,by omega,.inl hS⟩).below hb3
 have hbd:Below w3.heap.size w3 wW:=by rw[hwW];exact(Below.refl _ w3).drew
 have hBW:=Za (hB.below hbd);have ck:=Za fun z (w:World) (hb:Below wW.heap.size wW w)=>fE F w (hBW.out.rf.ok.below hb) z;have hfc:Hid (∀w':World,Below wW.heap.size wW w'→_):=Za fun w' hb=>(hBW.out.below hb).facts;have hgo:Hid (Below wW.heap.size wW w3.drew):=Za (by rw[←hwW];exact Below.refl _ _);have hfo:=Za hw3.symm;have h1':=Za hg'.symm;have h2':=Za hgs.symm;have h3':=Za (show w.heap.size+1+1=gr by omega);unfold FnV.cells at ck;unfold FnV.cells stC zeroS at hfo;clear hw3 hg' hgs hgr hb3 e1 e2 hwW hB hbd hF H;unfold FnV.cells stC;go_enter Tryz.func93,Tryz.ntmps93;go_upto_region 1 with(fail);rw[hfo.out,h3'.out,h2'.out,h1'.out];clear hfo h1' h2' h3'
 refine aC ((eqv (.agg #[.string (ay F.nm),.slice F.A1 F.ps.length F.c1,.slice F.A2 F.ls.length F.c2,.slice F.A3 F.n3 F.c3]))::(eqv (.pointer (some ⟨gs,1,none⟩)))::(eqv (.string (ay hx)))::(eqv (.int .i64 (F.K hx)))::(eqv (.agg #[.string (ay F.nm),.slice F.A1 F.ps.length F.c1,.slice F.A2 F.ls.length F.c2,.slice F.A3 F.n3 F.c3]))::(eqv (.pointer (some ⟨gs,2,none⟩)))::(eqv (.string (ay hy)))::(eqv (.int .i64 (F.K hy)))::(eqv (.int .i64 (F.K hx)))::(eqv (.int .i64 (F.K hy)))::[])
  ((rn1 2)::(rn1 3)::(rd1 12 1)::⟨[(11,some 0),(13,some 2)],0,[]⟩::(rn1 2)::(rn1 3)::(rd1 16 5)::⟨[(15,some 4),(17,some 6)],0,[]⟩::(rd1 14 3)::(rd1 18 7)::[])
  (no::no::no::no::no::no::so 8::so 9::no::no::no::so 0::so 1::so 2::so 3::so 4::so 5::so 6::so 7::[])
  (fun _ w'=>Below wW.heap.size wW w') (fun _ w w'=>Below w.heap.size w w') ?mixK1st1 ?okK1st1 ?tabK1st1 ?frK1st1 ?inK1st1 ?keptK1st1 ?startK1st1 ?eachK1st1 ?finK1st1
 case mixK1st1|okK1st1|tabK1st1|frK1st1=>kernel_rfl
 case inK1st1=>rfl
 case keptK1st1=>((repeat refine⟨fun _ _ _ _ _ _ _ _ _ _ _ h=>h,?_⟩);exact trivial)
 case startK1st1=>exact hgo.out
 case eachK1st1=>
  repeat' first|exact trivial|refine And.intro ?_ ?_
  iterate 3 (intro w L f hC hLi hLd hLn ⟨a,_⟩;change _=_ at a;refine au.live rfl ?_;obtain⟨⟨p0,p1,p2,p3,pl⟩,s0,s1,s2,s3,s4,s5,s6,s7,s8,s9,sl⟩:=hfc.out w hC;obtain⟨ev,ec,ef⟩:=evs f;refine aj ?_ hC (Below.refl _ _) rfl;go_simp)
  ·intro w L f hC hLi hLd hLn ⟨a,b,_⟩;change _=_ at a b;refine au.live rfl ?_;obtain⟨ev,ec,ef⟩:=evs f;refine aF (f:=142) (args:= #[.agg #[.string (ay F.nm),.slice F.A1 F.ps.length F.c1,.slice F.A2 F.ls.length F.c2,.slice F.A3 F.n3 F.c3],.string (ay hx)]) (w:=w) (by go_simp) (ck.out hx w hC) ?_;rintro e w1 ⟨he,hB⟩;exact⟨_,he,hC.trans (hB.mono hC.size),hB,rfl⟩
  iterate 3 (intro w L f hC hLi hLd hLn ⟨a,_⟩;change _=_ at a;refine au.live rfl ?_;obtain⟨⟨p0,p1,p2,p3,pl⟩,s0,s1,s2,s3,s4,s5,s6,s7,s8,s9,sl⟩:=hfc.out w hC;obtain⟨ev,ec,ef⟩:=evs f;refine aj ?_ hC (Below.refl _ _) rfl;go_simp)
  ·intro w L f hC hLi hLd hLn ⟨a,b,_⟩;change _=_ at a b;refine au.live rfl ?_;obtain⟨ev,ec,ef⟩:=evs f;refine aF (f:=142) (args:= #[.agg #[.string (ay F.nm),.slice F.A1 F.ps.length F.c1,.slice F.A2 F.ls.length F.c2,.slice F.A3 F.n3 F.c3],.string (ay hy)]) (w:=w) (by go_simp) (ck.out hy w hC) ?_;rintro e w1 ⟨he,hB⟩;exact⟨_,he,hC.trans (hB.mono hC.size),hB,rfl⟩
  ·intro w L f hC hLi hLd hLn ⟨d,_⟩;refine au.live rfl ?_;exact aj (v:=f 14) rfl (hC) (Below.refl _ _) d
  ·intro w L f hC hLi hLd hLn ⟨d,_⟩;refine au.live rfl ?_;exact aj (v:=f 18) rfl (hC) (Below.refl _ _) d
 intro x w' hC hV
 have x6:=hV 8 _ rfl rfl;have x7:=hV 9 _ rfl rfl;have hB1:=Za (hBW.out.below hC);clear hV hC hBW ck hfc hgo;simp only[framed];rw[x6,x7];clear x6 x7;have hkx2:Hid (F.K hx=0∨F.K hx=1∨F.K hx=2):=hkx;have hky2:Hid (F.K hy=0∨F.K hy=1∨F.K hy=2):=hky;obtain⟨kx,hex⟩:∃y,y=F.K hx:=⟨_,rfl⟩;obtain⟨ky,hey⟩:∃y,y=F.K hy:=⟨_,rfl⟩;rw[←hex]at hkx2⊢;rw[←hey]at hky2⊢;have hX:=Za hex;have hY:=Za hey;obtain⟨wz,hwz⟩:∃y,y=w':=⟨_,rfl⟩;rw[←hwz]at hB1⊢;clear hex hey hkx hky hwz;have hk0:=hk.out;clear hk;subst hk0;rcases hkx2.out with rfl|rfl|rfl
 ·have cw5:=Za (eG F he wz _ hB1.out.rf.ok hB1.out.gx.e);unfold FnV.cells at cw5;obtain⟨⟨p0,p1,p2,p3,pl⟩,⟨s0,s1,s2,s3,s4,s5,s6,s7,s8,s9,sl⟩⟩:=hB1.out.facts;go_wp2_with fail;refine cw5.out.mono ?_;clear cw5 p0 p1 p2 p3 pl s0 s1 s2 s3 s4 s5 s6 s7 s8 s9 sl;rintro ew5 w5 ⟨rfl,hbw5⟩;have hB5:=Za (hB1.out.below hbw5);clear hbw5;obtain⟨⟨p0,p1,p2,p3,pl⟩,⟨s0,s1,s2,s3,s4,s5,s6,s7,s8,s9,sl⟩⟩:=hB5.out.facts;obtain⟨r0,r1,r2,r3,r4,r5,r6,r7,r8,r9,rl,rf⟩:=hB5.out.fr;have f0:=rf.out 0;have f1:=rf.out 1;have f2:=rf.out 2;have f3:=rf.out 3;have f4:=rf.out 4;have f5:=rf.out 5;have f6:=rf.out 6;have f7:=rf.out 7;have f8:=rf.out 8;have f9:=rf.out 9;go_wp2_with fail;exact StB.fin hB5.out ⟨0,hx,hy,he,hf,hc,hg,ha⟩ (by simp[aS,←hX.out]) (fun hh=>⟨by simp[aS,←hX.out],by simp[turned,←hX.out]⟩) rfl rfl rfl rfl Tryz.underlying63 Tryz.sStmt
 ·have cw5:=Za (eG F he wz _ hB1.out.rf.ok hB1.out.gx.e);unfold FnV.cells at cw5;obtain⟨⟨p0,p1,p2,p3,pl⟩,⟨s0,s1,s2,s3,s4,s5,s6,s7,s8,s9,sl⟩⟩:=hB1.out.facts;go_wp2_with fail;refine cw5.out.mono ?_;clear cw5 p0 p1 p2 p3 pl s0 s1 s2 s3 s4 s5 s6 s7 s8 s9 sl;rintro ew5 w5 ⟨rfl,hbw5⟩;have hB5:=Za (hB1.out.below hbw5);clear hbw5;obtain⟨⟨p0,p1,p2,p3,pl⟩,⟨s0,s1,s2,s3,s4,s5,s6,s7,s8,s9,sl⟩⟩:=hB5.out.facts;obtain⟨r0,r1,r2,r3,r4,r5,r6,r7,r8,r9,rl,rf⟩:=hB5.out.fr;have f0:=rf.out 0;have f1:=rf.out 1;have f2:=rf.out 2;have f3:=rf.out 3;have f4:=rf.out 4;have f5:=rf.out 5;have f6:=rf.out 6;have f7:=rf.out 7;have f8:=rf.out 8;have f9:=rf.out 9;go_wp2_with fail;exact StB.fin hB5.out ⟨0,hx,hy,he,hf,hc,hg,ha⟩ (by simp[aS,←hX.out]) (fun hh=>⟨by simp[aS,←hX.out],by simp[turned,←hX.out]⟩) rfl rfl rfl rfl Tryz.underlying63 Tryz.sStmt
 ·have cw5:=Za (m_ F he wz _ hB1.out.rf.ok hB1.out.gx.e);unfold FnV.cells at cw5;obtain⟨⟨p0,p1,p2,p3,pl⟩,⟨s0,s1,s2,s3,s4,s5,s6,s7,s8,s9,sl⟩⟩:=hB1.out.facts;go_wp2_with fail;refine cw5.out.mono ?_;clear cw5 p0 p1 p2 p3 pl s0 s1 s2 s3 s4 s5 s6 s7 s8 s9 sl;rintro ew5 w5 ⟨rfl,hbw5⟩;have hB5:=Za (hB1.out.below hbw5);clear hbw5
  cases hP:dN F.K he with
  |false=>
   replace hP:=Za hP;obtain⟨⟨p0,p1,p2,p3,pl⟩,⟨s0,s1,s2,s3,s4,s5,s6,s7,s8,s9,sl⟩⟩:=hB5.out.facts;obtain⟨r0,r1,r2,r3,r4,r5,r6,r7,r8,r9,rl,rf⟩:=hB5.out.fr;have f0:=rf.out 0;have f1:=rf.out 1;have f2:=rf.out 2;have f3:=rf.out 3;have f4:=rf.out 4;have f5:=rf.out 5;have f6:=rf.out 6;have f7:=rf.out 7;have f8:=rf.out 8;have f9:=rf.out 9;go_wp2_with fail;exact StB.fin hB5.out ⟨0,hx,hy,he,hf,hc,hg,ha⟩ (by simp[aS,←hX.out,hP.out]) (fun hh=>by cases hh) rfl rfl rfl rfl Tryz.underlying63 Tryz.sStmt
  |true=>
   cases he with
   |nil=>cases hP
   |mk ek en nm ea eb=>
    obtain⟨hk1,hK1⟩:ek=1∧F.K nm=2:=by unfold dN at hP;simpa using hP
    subst hk1;obtain⟨gx,va,vb,e1,hS,hnm,-,hH,-,-⟩:=hB5.out.hd.e;injection e1 with e1;subst e1;have hK2:=Za hK1;have y2:w5.cell? ⟨gx,2,none⟩=some (.string (ay nm)):=hH.cell 2;have yl:=hH.lt;have hne1:¬gx=gr:=hS.2.1;have hne2:¬gr=gx:=fun e=>hS.2.1 e.symm
    have hg1:¬gs=gr:=by have:=hB5.out.gl;omega
    have hg2:¬gr=gs:=by have:=hB5.out.gl;omega
    have hnm':=Za hnm;clear hP hH hS hK1 hnm;obtain⟨⟨p0,p1,p2,p3,pl⟩,⟨s0,s1,s2,s3,s4,s5,s6,s7,s8,s9,sl⟩⟩:=hB5.out.facts;obtain⟨r0,r1,r2,r3,r4,r5,r6,r7,r8,r9,rl,rf⟩:=hB5.out.fr;have f0:=rf.out 0;have f1:=rf.out 1;have f2:=rf.out 2;have f3:=rf.out 3;have f4:=rf.out 4;have f5:=rf.out 5;have f6:=rf.out 6;have f7:=rf.out 7;have f8:=rf.out 8;have f9:=rf.out 9;go_wp2_with fail
    go_region
    all_goals
     go_wp2_with fail;have hW:=bU w5 gr (.int .i64 2) (.string (ay hx)) (.string (ay nm)) (.pointer none) (.pointer none) (.pointer none) (.slice none 0 0) (.slice none 0 0) (.slice none 0 0) (.int .i64 ha);refine uw rfl rfl rfl ((cO hB5.out.hr (.int .i64 2) (.string (ay hx)) (.string (ay nm)) (.pointer none) (.pointer none) (.pointer none) (.slice none 0 0) (.slice none 0 0) (.slice none 0 0) (.int .i64 ha)).drewN 1) Tryz.underlying63 Tryz.sStmt ?_
     have hs:aS F.K ⟨0,hx,hy,.mk 1 en nm ea eb,hf,hc,hg,ha⟩=(⟨2,hx,nm,.nil,.nil,.nil,[],ha⟩,true):=by simp[aS,dN,←hX.out,hK2.out,Ex.name]
     refine⟨⟨2,hx,nm,.nil,.nil,.nil,[],ha⟩,none,none,none,none,0,0,none,0,0,none,0,0,by rw[hs];rfl,(hB5.out.rf.bl.trans (hW.below hB5.out.rf.bl.size fun j hj=>by have h1:=hB5.out.g0;have h2:=hB5.out.gl;simp at hj;omega)).trans (Below.refl _ _).drew,fun _=>⟨by rw[hs],⟨rfl,rfl,rfl,⟨none,0,[],rfl,by simp,by simp,bI.nil_ _ _ _,rfl⟩,hB5.out.hd.x,hnm'.out,(by decide:(2:Nat)≤12),hB5.out.hd.at_⟩,fun _=>⟨rfl,rfl,rfl,rfl,rfl,rfl⟩,fun ht=> ?_⟩⟩;simp[turned,dN,←hX.out,hK2.out]at ht
theorem BP (K:List UInt8→Nat) (a:Ag):(jf K a).1=fG K a:=by
 unfold jf fG
 cases hp:a.ptr with
 |true=>simp
 |false=>cases hq:dN K a.e with
  |true=>simp
  |false=>simp
theorem vJ {K:List UInt8→Nat} {hx hy:List UInt8} {he hf:Ex} {hc:Cn} {hg:List Ag} {ha:Nat}:aS K ⟨8,hx,hy,he,hf,hc,hg,ha⟩=(⟨8,hx,hy,he,hf,hc,hg.map (fG K),ha⟩,((hx== []||K hx !=2)&&K hy==0)&&hg.all fun a=>(jf K a).2):=by
 have e:(qG K hg).1=hg.map (fG K):=by unfold qG;exact List.map_congr_left fun a _=>BP K a
 have e2:(qG K hg).2=hg.all fun a=>(jf K a).2:=rfl;simp[aS,e,e2]
theorem Ey (K:List UInt8→Nat) (l:List Ag) {j:Nat} (hj:j<l.length):((l.take (j+1)).all fun a=>(jf K a).2)=(((l.take j).all fun a=>(jf K a).2)&&(jf K l[j]).2):=by
 rw[List.take_add_one,List.getElem?_eq_getElem hj,Option.toList_some,List.all_append,List.all_cons,List.all_nil,Bool.and_true]
theorem vw {w:World} {S:Nat→Prop} {g n j:Nat} {K:List UInt8→Nat} {l:List Ag} {cs:Array Value} {a:Ag} (ha:l.getD j ⟨false,[],.nil⟩=a) (hh:fG K a=a) (H:gB w S g n (iF K l j) cs):gB w S g n (iF K l (j+1)) cs:=H.congr fun i hi=>by
 unfold iF;by_cases h1:i<j
 ·rw[if_pos h1,if_pos (by omega)]
 ·by_cases h2:i=j
  ·rw[if_neg h1,if_pos (by omega),h2,ha,hh]
  ·rw[if_neg h1,if_neg (by omega)]
theorem StB.Dn {S:Nat→Prop} {F:FnV} {h:Hd} {pe pf pc Aa At Al:Option Addr} {na ca nt ct nl cl g gs gr:Nat} {w0 w:World} (H:StB S F h pe pf pc Aa na ca (stC h pe pf pc Aa At Al na ca nt ct nl cl) g gs gr w0 w) (hF:F.ok w0) (l:List Ag) {A':Option Addr} {c':Nat} (hA:aZ w (Apt S gs gr w0.heap.size) l (.slice A' l.length c')):
  StB S F {h with args:=l} pe pf pc A' l.length c' (stC {h with args:=l} pe pf pc A' At Al l.length c' nt ct nl cl) g gs gr w0 (w.setCell ⟨gs,6,none⟩ (.slice A' l.length c')):=by
 have hW:Writes [some gs] w (w.setCell ⟨gs,6,none⟩ (.slice A' l.length c')):=Writes.store w (by simp) _;have hb:=H.rf.bl.trans (hW.below H.rf.bl.size fun j hj=>by have:=H.g0;simp at hj;omega)
 have hne:g≠gs:=fun e=>by have h1:=H.rf.hg;rw[e]at h1;have h2:=h1.symm.trans H.hs;simp at h2
 have hgl:=H.gl;refine⟨⟨hW.holds H.rf.hg (by simp;exact hne),hF.below hb,hb⟩,?_,hW.holds H.hr (by simp;omega),?_,H.g0,H.gl⟩
 ·have:=H.hs.store 6 (.slice A' l.length c');simpa[stC]using this
 ·have hk:∀x,x<w.heap.size→Apt S gs gr w0.heap.size x→(w.setCell ⟨gs,6,none⟩ (.slice A' l.length c')).heap[x]? =w.heap[x]? :=fun x hx hS=>hW.block x hx (by simp;exact hS.1);exact⟨H.hd.e.keep hk,H.hd.f.keep hk,H.hd.c.keep hk,hA.keep hk,H.hd.x,H.hd.y,H.hd.k,H.hd.at_⟩
theorem yO (F:FnV) (w:World) (k:Nat) (hx hy:List UInt8) (he hf:Ex) (hc:Cn) (hg:List Ag) (ha:Nat) (hk:k=8) (pe pf pc Aa At Al:Option Addr) (na ca nt ct nl cl:Nat) (S:Nat→Prop) (hF:F.ok w) (H:dn w S ⟨k,hx,hy,he,hf,hc,hg,ha⟩ (.pointer pe) (.pointer pf) (.pointer pc) (.slice Aa na ca)):
  Calls Tryz.prog 93 #[.agg F.cells,.agg (stC ⟨k,hx,hy,he,hf,hc,hg,ha⟩ pe pf pc Aa At Al na ca nt ct nl cl)] w (qH S F.K ⟨k,hx,hy,he,hf,hc,hg,ha⟩ At Al nt ct nl cl w):=by
 replace hk:=Za hk;have hF0:=Za hF;obtain⟨iA,hiA,hzA0,hzA1,hzA2⟩:=info_parts Tryz.clArg;have hkx:=Za (fO (F.ps++F.ls) hx);have hky:=Za (fO (F.ps++F.ls) hy);obtain⟨w3,hw3⟩:∃y,y=((w.alloc (.cells F.cells 26)).alloc (.cells (stC ⟨k,hx,hy,he,hf,hc,hg,ha⟩ pe pf pc Aa At Al na ca nt ct nl cl) 63)).alloc (.cells zeroS 63):=⟨_,rfl⟩;obtain⟨g,hg'⟩:∃y,y=w.heap.size:=⟨_,rfl⟩;obtain⟨gs,hgs⟩:∃y,y=w.heap.size+1:=⟨_,rfl⟩;obtain⟨gr,hgr⟩:∃y,y=w.heap.size+2:=⟨_,rfl⟩
 have hb3:Below w.heap.size w w3:=by rw[hw3];exact(((Below.refl _ _).alloc (Nat.le_refl _) _).alloc (by simp) _).alloc (by simp;omega) _
 have e1:(w.alloc (.cells F.cells 26)).heap.size=w.heap.size+1:=by simp
 have e2:((w.alloc (.cells F.cells 26)).alloc (.cells (stC ⟨k,hx,hy,he,hf,hc,hg,ha⟩ pe pf pc Aa At Al na ca nt ct nl cl) 63)).heap.size=w.heap.size+2:=by simp
 obtain⟨wW,hwW⟩:∃y,y=w3.drew:=⟨_,rfl⟩
 have hB:StB S F ⟨k,hx,hy,he,hf,hc,hg,ha⟩ pe pf pc Aa na ca (stC ⟨k,hx,hy,he,hf,hc,hg,ha⟩ pe pf pc Aa At Al na ca nt ct nl cl) g gs gr w w3:=by
  refine⟨⟨?_,hF.below hb3,hb3⟩,?_,?_,?_,by omega,by omega⟩
  ·rw[hw3,hg'];exact((Holds.new w _ _).alloc _).alloc _
  ·have h1:=(Holds.new (w.alloc (.cells F.cells 26)) 63 (stC ⟨k,hx,hy,he,hf,hc,hg,ha⟩ pe pf pc Aa At Al na ca nt ct nl cl)).alloc (.cells zeroS 63);rw[e1]at h1;rw[hw3,hgs];exact h1
  ·have h1:=Holds.new ((w.alloc (.cells F.cells 26)).alloc (.cells (stC ⟨k,hx,hy,he,hf,hc,hg,ha⟩ pe pf pc Aa At Al na ca nt ct nl cl) 63)) 63 zeroS;rw[e2]at h1;rw[hw3,hgr];exact h1
  ·exact(H.mono (S':=Apt S gs gr w.heap.size) fun x hx hS=>⟨by omega,by omega,.inl hS⟩).below hb3
 have hbd:Below w3.heap.size w3 wW:=by rw[hwW];exact(Below.refl _ w3).drew
 have hBW:=Za (hB.below hbd);have ck:=Za fun z (w:World) (hb:Below wW.heap.size wW w)=>fE F w (hBW.out.rf.ok.below hb) z;have hfc:Hid (∀w':World,Below wW.heap.size wW w'→_):=Za fun w' hb=>(hBW.out.below hb).facts;have hgo:Hid (Below wW.heap.size wW w3.drew):=Za (by rw[←hwW];exact Below.refl _ _);have hfo:=Za hw3.symm;have h1':=Za hg'.symm;have h2':=Za hgs.symm;have h3':=Za (show w.heap.size+1+1=gr by omega);unfold FnV.cells at ck;unfold FnV.cells stC zeroS at hfo;clear hw3 hg' hgs hgr hb3 e1 e2 hwW hB hbd hF H;unfold FnV.cells stC;go_enter Tryz.func93,Tryz.ntmps93;go_upto_region 1 with(fail);rw[hfo.out,h3'.out,h2'.out,h1'.out];clear hfo h1' h2' h3'
 refine aC ((eqv (.agg #[.string (ay F.nm),.slice F.A1 F.ps.length F.c1,.slice F.A2 F.ls.length F.c2,.slice F.A3 F.n3 F.c3]))::(eqv (.pointer (some ⟨gs,1,none⟩)))::(eqv (.string (ay hx)))::(eqv (.int .i64 (F.K hx)))::(eqv (.agg #[.string (ay F.nm),.slice F.A1 F.ps.length F.c1,.slice F.A2 F.ls.length F.c2,.slice F.A3 F.n3 F.c3]))::(eqv (.pointer (some ⟨gs,2,none⟩)))::(eqv (.string (ay hy)))::(eqv (.int .i64 (F.K hy)))::(eqv (.int .i64 (F.K hx)))::(eqv (.int .i64 (F.K hy)))::[])
  ((rn1 2)::(rn1 3)::(rd1 12 1)::⟨[(11,some 0),(13,some 2)],0,[]⟩::(rn1 2)::(rn1 3)::(rd1 16 5)::⟨[(15,some 4),(17,some 6)],0,[]⟩::(rd1 14 3)::(rd1 18 7)::[])
  (no::no::no::no::no::no::so 8::so 9::no::no::no::so 0::so 1::so 2::so 3::so 4::so 5::so 6::so 7::[])
  (fun _ w'=>Below wW.heap.size wW w') (fun _ w w'=>Below w.heap.size w w') ?mixK1st1 ?okK1st1 ?tabK1st1 ?frK1st1 ?inK1st1 ?keptK1st1 ?startK1st1 ?eachK1st1 ?finK1st1
 case mixK1st1|okK1st1|tabK1st1|frK1st1=>kernel_rfl
 case inK1st1=>rfl
 case keptK1st1=>((repeat refine⟨fun _ _ _ _ _ _ _ _ _ _ _ h=>h,?_⟩);exact trivial)
 case startK1st1=>exact hgo.out
 case eachK1st1=>
  repeat' first|exact trivial|refine And.intro ?_ ?_
  iterate 3 (intro w L f hC hLi hLd hLn ⟨a,_⟩;change _=_ at a;refine au.live rfl ?_;obtain⟨⟨p0,p1,p2,p3,pl⟩,s0,s1,s2,s3,s4,s5,s6,s7,s8,s9,sl⟩:=hfc.out w hC;obtain⟨ev,ec,ef⟩:=evs f;refine aj ?_ hC (Below.refl _ _) rfl;go_simp)
  ·intro w L f hC hLi hLd hLn ⟨a,b,_⟩;change _=_ at a b;refine au.live rfl ?_;obtain⟨ev,ec,ef⟩:=evs f;refine aF (f:=142) (args:= #[.agg #[.string (ay F.nm),.slice F.A1 F.ps.length F.c1,.slice F.A2 F.ls.length F.c2,.slice F.A3 F.n3 F.c3],.string (ay hx)]) (w:=w) (by go_simp) (ck.out hx w hC) ?_;rintro e w1 ⟨he,hB⟩;exact⟨_,he,hC.trans (hB.mono hC.size),hB,rfl⟩
  iterate 3 (intro w L f hC hLi hLd hLn ⟨a,_⟩;change _=_ at a;refine au.live rfl ?_;obtain⟨⟨p0,p1,p2,p3,pl⟩,s0,s1,s2,s3,s4,s5,s6,s7,s8,s9,sl⟩:=hfc.out w hC;obtain⟨ev,ec,ef⟩:=evs f;refine aj ?_ hC (Below.refl _ _) rfl;go_simp)
  ·intro w L f hC hLi hLd hLn ⟨a,b,_⟩;change _=_ at a b;refine au.live rfl ?_;obtain⟨ev,ec,ef⟩:=evs f;refine aF (f:=142) (args:= #[.agg #[.string (ay F.nm),.slice F.A1 F.ps.length F.c1,.slice F.A2 F.ls.length F.c2,.slice F.A3 F.n3 F.c3],.string (ay hy)]) (w:=w) (by go_simp) (ck.out hy w hC) ?_;rintro e w1 ⟨he,hB⟩;exact⟨_,he,hC.trans (hB.mono hC.size),hB,rfl⟩
  ·intro w L f hC hLi hLd hLn ⟨d,_⟩;refine au.live rfl ?_;exact aj (v:=f 14) rfl (hC) (Below.refl _ _) d
  ·intro w L f hC hLi hLd hLn ⟨d,_⟩;refine au.live rfl ?_;exact aj (v:=f 18) rfl (hC) (Below.refl _ _) d
 intro x w' hC hV
 have x6:=hV 8 _ rfl rfl;have x7:=hV 9 _ rfl rfl;have hB1:=Za (hBW.out.below hC);clear hV hC hBW ck hfc hgo;simp only[framed];rw[x6,x7];clear x6 x7;have hkx2:Hid (F.K hx=0∨F.K hx=1∨F.K hx=2):=hkx;have hky2:Hid (F.K hy=0∨F.K hy=1∨F.K hy=2):=hky;obtain⟨kx,hex⟩:∃y,y=F.K hx:=⟨_,rfl⟩;obtain⟨ky,hey⟩:∃y,y=F.K hy:=⟨_,rfl⟩;rw[←hex]at hkx2⊢;rw[←hey]at hky2⊢;have hX:=Za hex;have hY:=Za hey;obtain⟨wz,hwz⟩:∃y,y=w':=⟨_,rfl⟩;rw[←hwz]at hB1⊢;clear hex hey hkx hky hwz;have hk0:=hk.out;clear hk;subst hk0;obtain⟨b0,hb0⟩:∃b:Bool,b=((hx== []||kx !=2)&&ky==0):=⟨_,rfl⟩;have hb0':=Za hb0;clear hb0;obtain⟨⟨p0,p1,p2,p3,pl⟩,⟨s0,s1,s2,s3,s4,s5,s6,s7,s8,s9,sl⟩⟩:=hB1.out.facts;go_upto_region 26 with(fail);go_cut [8] (fun u8 wx=>Hid (u8= .bool b0∧StB S F ⟨8,hx,hy,he,hf,hc,hg,ha⟩ pe pf pc Aa na ca (stC ⟨8,hx,hy,he,hf,hc,hg,ha⟩ pe pf pc Aa At Al na ca nt ct nl cl) g gs gr w wx))
 case first=>
  by_cases hxe:hx= []
  ·have hxs:(ay hx).toList= []:=by rw[aH];exact hxe
   have hxb:(ay hx).toList.isEmpty=true:=by rw[aH,hxe];rfl
   replace hxe:=Za hxe;rcases hkx2.out with rfl|rfl|rfl
   all_goals
    rcases hky2.out with rfl|rfl|rfl
    all_goals
     go_wp2_with fail
     go_meet
     case rel=>exact Za ⟨by rw[hb0'.out,hxe.out];rfl,hB1.out⟩
  ·have hxs:¬(ay hx).toList= []:=by rw[aH];exact hxe
   have hxb:(ay hx).toList.isEmpty=false:=by rw[aH];simpa using hxe
   have hxq:=Za (show(hx== [])=false by simpa using hxe);clear hxe;rcases hkx2.out with rfl|rfl|rfl
   all_goals
    rcases hky2.out with rfl|rfl|rfl
    all_goals
     go_wp2_with fail
     go_meet
     case rel=>exact Za ⟨by rw[hb0'.out,hxq.out];rfl,hB1.out⟩
 case rest=>
 obtain⟨hu8,hB2⟩:=hcut.out;clear hcut hB1 p0 p1 p2 p3 pl s0 s1 s2 s3 s4 s5 s6 s7 s8 s9 sl;rename World=>wc;replace hB2:=Za hB2;subst hu8
 obtain⟨vs,hvl,hone,hrow,hcs,hna,hna5⟩:∃vs,vs.length=na*3∧(∀u∈vs,u.oneCell'=true)∧bI wc Evr Aa vs∧aW wc (Apt S gs gr w.heap.size) hg vs∧na=hg.length∧na≤100000:=by obtain⟨A,c,vs,e,l1,l2,h1,h2⟩:=hB2.out.hd.a;injection e with e1 e2 e3;subst e1;exact⟨vs,by rw[e2];exact h2.length,h2.one,h1.mono fun _ _ _=>trivial,h2,e2,by rw[e2];exact l1⟩
 have FV:=Za hvl;have hone':=Za hone;have hrow':=Za hrow;have hcs':=Za hcs;have hna':=Za hna;clear hvl hone hrow hcs hna;obtain⟨⟨p0,p1,p2,p3,pl⟩,⟨s0,s1,s2,s3,s4,s5,s6,s7,s8,s9,sl⟩⟩:=hB2.out.facts;go_wp2_with
  (at_builtin
   refine gI rfl (.const (.slice none 0 0)) (.tmp 131) 61 rfl wc.heap.size 168 iA _ 3 32 Tryz.underlying61 hiA hzA0 hzA1 hzA2 rfl (by omega) (.slice none 0 0) 0 [] rfl (World.ownsRow_nil _ _ _ _) Aa na ca vs rfl FV.out hrow'.out hone'.out (by unfold maxLen;omega) (by omega) (Nat.le_refl _) ?_;intro v1 w1 ho1 hg1 _;have hbo:Hid (Below wc.heap.size wc w1):=Za ⟨hg1.os,hg1.tape,hg1.output,hg1.size,fun k hk=>hg1.block k hk (by simp[Value.ownBlock])⟩;have ho:=Za ho1
   clear ho1 hg1)
 have hoo:=ho.out;rw[Nat.zero_add,List.nil_append]at hoo;clear ho p0 p1 p2 p3 pl s0 s1 s2 s3 s4 s5 s6 s7 s8 s9 sl;by_cases hne:hg= []
 ·subst hne
  obtain rfl:na=0:=by rw[hna'.out];rfl
  obtain⟨A',c',rfl⟩:∃A' c',v1= .slice A' 0 c':=by obtain⟨A',c',e,-,-⟩:=bI.own (S:=fun _=>True) hoo (fun _ _=>trivial);exact⟨A',c',e⟩
  clear hoo hcs' hrow' FV hone';go_loopw [8,10] (fun u8 i wl=>u8= .bool b0∧i= .int .i64 0∧Hid (Below wc.heap.size wc wl)) (fun _ _ _=>0)
  case atStart=>exact⟨rfl,rfl,hbo⟩
  obtain⟨hu8,rfl,hbl⟩:=hrel;subst hu8;rename World=>wl;have hBl:=Za (hB2.out.below hbl.out);have hB9:=Za (hBl.out.Dn hF0.out [] (A':=A') (c':=c') ⟨A',c',[],rfl,by simp,by simp,bI.nil_ _ _ _,rfl⟩);obtain⟨w9,hw9⟩:∃y,y=wl.setCell ⟨gs,6,none⟩ (.slice A' 0 c'):=⟨_,rfl⟩;have hf9:=Za hw9.symm;replace hB9:=hB9.out;rw[show([]:List Ag).length=0 from rfl,←hw9]at hB9;replace hB9:=Za hB9;have f6:=hBl.out.hs.frozen 6;clear hw9;obtain⟨⟨p0,p1,p2,p3,pl⟩,⟨s0,s1,s2,s3,s4,s5,s6,s7,s8,s9,sl⟩⟩:=hBl.out.facts;go_upto_region 39 with(fail);rw[hf9.out];clear f6 p0 p1 p2 p3 pl s0 s1 s2 s3 s4 s5 s6 s7 s8 s9 sl;obtain⟨⟨p0,p1,p2,p3,pl⟩,⟨s0,s1,s2,s3,s4,s5,s6,s7,s8,s9,sl⟩⟩:=hB9.out.facts;obtain⟨r0,r1,r2,r3,r4,r5,r6,r7,r8,r9,rl,rf⟩:=hB9.out.fr;have f0:=rf.out 0;have f1:=rf.out 1;have f2:=rf.out 2;have f3:=rf.out 3;have f4:=rf.out 4;have f5:=rf.out 5;have f6:=rf.out 6;have f7:=rf.out 7;have f8:=rf.out 8;have f9:=rf.out 9;go_wp2_with fail
  exact StB.fin hB9.out ⟨8,hx,hy,he,hf,hc,[],ha⟩ (ok:=b0) (by rw[vJ,hb0'.out,←hX.out,←hY.out];simp) (fun hh=>⟨by rw[vJ];rfl,by simp[turned]⟩) rfl rfl rfl rfl Tryz.underlying63 Tryz.sStmt
 ·have hof:=gB.of (l:=hg) (w:=w1) (jL hoo hna'.out) hne hcs'.out hbo.out;obtain⟨ga,cap,cs0,hv1,hcap,hgb,hAR⟩:=hof;rw[←hna'.out]at hv1 hcap hAR;subst hv1;have hgb':=Za hgb;have Ea:Hid (gB w1 (fun x=>x<wc.heap.size∧Apt S gs gr w.heap.size x) ga na (iF F.K hg 0) cs0):=Za (hAR.congr fun j hj=>by unfold iF;rw[if_neg (by omega)]);have hcap':=Za hcap;clear hoo hcs' hrow' FV hone' hgb hAR hcap hne;have hst:Hid (b0=(b0&&((hg.take 0).all fun a=>(jf F.K a).2))):=Za (by simp);go_loopw [8,10] (fun u8 i wl=>∃(j:Nat) (bj:Bool) (cs:Array Value),j≤na∧i= .int .i64 j∧u8= .bool bj∧Hid (bj=(b0&&((hg.take j).all fun a=>(jf F.K a).2)))∧Hid (gB wl (fun x=>x<wc.heap.size∧Apt S gs gr w.heap.size x) ga na (iF F.K hg j) cs)∧Hid (Below wc.heap.size wc wl)) (fun _ i _=>na-(intOf i).toNat)
  case atStart=>exact⟨0,b0,cs0,by omega,rfl,rfl,hst,Ea,hbo⟩
  clear Ea hbo hst;obtain⟨j,bj,cs,hj,rfl,hu8,hbj,hAR,hbl⟩:=hrel;subst hu8;rename World=>wl;have hBl:=Za (hB2.out.below hbl.out);by_cases hlt:j<na
  ·have hjl:j<hg.length:=by rw[←hna'.out];exact hlt
   obtain⟨ve,y0,y1,y2,hxe,hnm⟩:=hAR.out.2 j hlt
   have hjj:iF F.K hg j j=hg[j]:=by unfold iF;rw[if_neg (by omega)];simp[List.getD_eq_getElem?_getD,List.getElem?_eq_getElem hjl]
   rw[hjj]at y0 y1 hxe hnm;obtain⟨px,rfl⟩:=hxe.vp;have hsn:=Za (Ey F.K hg hjl);obtain⟨a,hae⟩:∃a,a=hg[j]:=⟨_,rfl⟩;have hgd:Hid (hg.getD j ⟨false,[],.nil⟩=a):=Za (by rw[hae];simp[List.getD_eq_getElem?_getD,List.getElem?_eq_getElem hjl]);rw[←hae]at y0 y1 hxe hnm hsn;have z0:wl.cell? ⟨ga,j*3,none⟩=some (.bool a.ptr):=(hAR.out.1.cell _).trans y0;have z1:wl.cell? ⟨ga,j*3+1,none⟩=some (.string (ay a.nm)):=(hAR.out.1.cell _).trans y1;have z2:wl.cell? ⟨ga,j*3+2,none⟩=some (.pointer px):=(hAR.out.1.cell _).trans y2;have zl:=hAR.out.1.lt;have hx2:=Za hxe;have hnm':=Za hnm;clear hjj hae y0 y1 y2 hxe hnm;obtain⟨ap,an,ae⟩:=a;simp only at z0 z1 hx2;obtain⟨wW,hwd⟩:∃y,y=wl.drew:=⟨_,rfl⟩
   have hbd:Below wl.heap.size wl wW:=by rw[hwd];exact(Below.refl _ wl).drew
   have hBW:=Za (hBl.out.below hbd);have pO:=Za (hAR.out.below hbd);have hbW:=Za (hbl.out.trans (hbd.mono hbl.out.size));have hxW:=Za ((hx2.out.below hbd).mono (S':=Evr) fun _ _ _=>trivial);have hfd:=Za hwd.symm;have hgo:Hid (Below wW.heap.size wW wl.drew):=Za (by rw[←hwd];exact Below.refl _ _);clear hwd hbd hx2;obtain⟨⟨p0,p1,p2,p3,pl⟩,⟨s0,s1,s2,s3,s4,s5,s6,s7,s8,s9,sl⟩⟩:=hBl.out.facts
   cases ap with
   |true=>
    have hfc:Hid (∀w':World,Below wW.heap.size wW w'→_∧w'.cell? ⟨ga,j*3+1,none⟩=some (.string (ay an))∧w'.cell? ⟨ga,j*3+2,none⟩=some (.pointer px)∧ga<w'.heap.size):=Za fun w' hb=>by
     have hH:=pO.out.1.below hb pO.out.1.lt;refine⟨(hBW.out.below hb).rf.facts,(hb.cell (p:=⟨ga,j*3+1,none⟩) pO.out.1.lt).trans ?_,(hb.cell (p:=⟨ga,j*3+2,none⟩) pO.out.1.lt).trans ?_,hH.lt⟩
     ·rw[←hfd.out];exact z1
     ·rw[←hfd.out];exact z2
    have ck:=Za fun(w:World) (hb:Below wW.heap.size wW w)=>fE F w (hBW.out.rf.ok.below hb) an;unfold FnV.cells at ck
    have hsame:fG F.K ⟨true,an,ae⟩=⟨true,an,ae⟩:=by unfold fG;simp
    have hnext:Hid (∀w',Below wW.heap.size wW w'→gB w' (fun x=>x<wc.heap.size∧Apt S gs gr w.heap.size x) ga na (iF F.K hg (j+1)) cs∧Below wc.heap.size wc w'):=Za fun w' hb=>⟨vw hgd.out hsame (pO.out.below hb),hbW.out.trans (hb.mono hbW.out.size)⟩;clear hsame;go_wp2_with fail;clear p0 p1 p2 p3 pl s0 s1 s2 s3 s4 s5 s6 s7 s8 s9 sl z0 z1 z2 zl
    cases bj with
    |false=>
     have hbn:Hid (false=(b0&&((hg.take (j+1)).all fun a=>(jf F.K a).2))):=Za (by rw[hsn.out,←Bool.and_assoc,←hbj.out];rfl);refine aC ((eqv (.bool false))::(eqv (.bool false))::eud::eud::eud::eud::eud::eud::eud::eud::(eqv (.bool false))::(eqv (.bool false))::[])
      ((rn1 8)::(rd1 144 0)::(rq1 2 145 1)::(rq1 9 145 1)::(rq1 10 145 1)::⟨[(147,some 3),(148,some 4),(145,some 1)],145,[]⟩::(rg1 149 5 145 1)::(rg1 150 6 145 1)::⟨[(146,some 2),(151,some 7),(145,some 1)],145,[]⟩::(rg1 152 8 145 1)::⟨[(145,some 1),(153,some 9)],0,[]⟩::(rd1 154 10)::[])
      (no::no::no::no::no::no::no::no::so 11::no::no::no::no::no::no::no::no::no::no::no::no::no::no::no::no::no::no::no::no::no::no::no::no::no::no::no::no::no::no::no::no::no::no::no::no::no::no::no::no::no::no::no::no::no::no::no::no::no::no::no::no::no::no::no::no::no::no::no::no::no::no::no::no::no::no::no::no::no::no::no::no::no::no::no::no::no::no::no::no::no::no::no::no::no::no::no::no::no::no::no::no::no::no::no::no::no::no::no::no::no::no::no::no::no::no::no::no::no::no::no::no::no::no::no::no::no::no::no::no::no::no::no::no::no::no::no::no::no::no::no::no::no::no::no::so 0::so 1::so 2::so 3::so 4::so 5::so 6::so 7::so 8::so 9::so 10::[])
      (fun _ w'=>Below wW.heap.size wW w') (fun _ w w'=>Below w.heap.size w w') ?mixK32st32F ?okK32st32F ?tabK32st32F ?frK32st32F ?inK32st32F ?keptK32st32F ?startK32st32F ?eachK32st32F ?finK32st32F
     case mixK32st32F|okK32st32F|tabK32st32F|frK32st32F=>kernel_rfl
     case inK32st32F=>rfl
     case keptK32st32F=>((repeat refine⟨fun _ _ _ _ _ _ _ _ _ _ _ h=>h,?_⟩);exact trivial)
     case startK32st32F=>exact hgo.out
     case eachK32st32F=>
      repeat' first|exact trivial|refine And.intro ?_ ?_
      ·intro w L f hC hLi hLd hLn ⟨d,_⟩;refine au.live rfl ?_;exact aj (v:=f 8) rfl (hC) (Below.refl _ _) d
      ·intro w L f hC hLi hLd hLn ⟨d,_⟩;refine au.live rfl ?_;exact aj (v:=f 144) rfl (hC) (Below.refl _ _) d
      iterate 3 (intro w L f hC hLi hLd hLn ⟨_,d,_⟩;refine aI.dead (show ak _ (f 145)=false by rw[show f 145=_ from d];rfl) (hC) ?_ (Below.refl _ _);exact rfl)
      ·intro w L f hC hLi hLd hLn ⟨_,_,d,_⟩;refine aI.dead (show ak _ (f 145)=false by rw[show f 145=_ from d];rfl) (hC) ?_ (Below.refl _ _);exact rfl
      iterate 2 (intro w L f hC hLi hLd hLn ⟨_,d,_⟩;refine aI.dead (show ak _ (f 145)=false by rw[show f 145=_ from d];rfl) (hC) ?_ (Below.refl _ _);exact rfl)
      ·intro w L f hC hLi hLd hLn ⟨_,_,d,_⟩;refine aI.dead (show ak _ (f 145)=false by rw[show f 145=_ from d];rfl) (hC) ?_ (Below.refl _ _);exact rfl
      ·intro w L f hC hLi hLd hLn ⟨_,d,_⟩;refine aI.dead (show ak _ (f 145)=false by rw[show f 145=_ from d];rfl) (hC) ?_ (Below.refl _ _);exact rfl
      ·intro w L f hC hLi hLd hLn ⟨a,b,_⟩;change _=_ at a b;refine au.live rfl ?_;obtain⟨ev,ec,ef⟩:=evs f;refine aj ?_ (hC) (Below.refl _ _) rfl;go_simp
      ·intro w L f hC hLi hLd hLn ⟨d,_⟩;refine au.live rfl ?_;exact aj (v:=f 154) rfl (hC) (Below.refl _ _) d
     intro x w' hC hV
     have e8:=hV 11 _ rfl rfl;obtain⟨y1,y2⟩:=hnext.out _ hC;have z1:=Za y1;have z2:=Za y2;clear hV hC y1 y2 hnext hfc ck;simp only[framed];rw[e8];go_wp2_with fail;exact⟨⟨j+1,false,cs,by omega,by simp,rfl,hbn,z1,z2⟩,by simp[intOf];omega⟩
    |true=>
     have hbn:Hid ((((F.K an:Nat):Int)==2)=(b0&&((hg.take (j+1)).all fun a=>(jf F.K a).2))):=Za (by rw[hsn.out,←Bool.and_assoc,←hbj.out,Bool.true_and];unfold jf;simp only[if_true];exact kH (F.K an) 2);refine aC ((eqv (.bool true))::(eqv (.bool true))::(eqv (.agg #[.string (ay F.nm),.slice F.A1 F.ps.length F.c1,.slice F.A2 F.ls.length F.c2,.slice F.A3 F.n3 F.c3]))::(eqv (.slice (some ⟨ga,0,none⟩) na cap))::(eqv (.int .i64 j))::(eqv (.pointer (some ⟨ga,j*3,none⟩)))::(eqv (.pointer (some ⟨ga,j*3+1,none⟩)))::(eqv (.string (ay an)))::(eqv (.int .i64 (F.K an)))::(eqv (.bool (((F.K an:Nat):Int)==2)))::(eqv (.bool (((F.K an:Nat):Int)==2)))::(eqv (.bool (((F.K an:Nat):Int)==2)))::[])
      ((rn1 8)::(rd1 144 0)::(rq1 2 145 1)::(rq1 9 145 1)::(rq1 10 145 1)::⟨[(147,some 3),(148,some 4),(145,some 1)],145,[]⟩::(rg1 149 5 145 1)::(rg1 150 6 145 1)::⟨[(146,some 2),(151,some 7),(145,some 1)],145,[]⟩::(rg1 152 8 145 1)::⟨[(145,some 1),(153,some 9)],0,[]⟩::(rd1 154 10)::[])
      (no::no::no::no::no::no::no::no::so 11::no::no::no::no::no::no::no::no::no::no::no::no::no::no::no::no::no::no::no::no::no::no::no::no::no::no::no::no::no::no::no::no::no::no::no::no::no::no::no::no::no::no::no::no::no::no::no::no::no::no::no::no::no::no::no::no::no::no::no::no::no::no::no::no::no::no::no::no::no::no::no::no::no::no::no::no::no::no::no::no::no::no::no::no::no::no::no::no::no::no::no::no::no::no::no::no::no::no::no::no::no::no::no::no::no::no::no::no::no::no::no::no::no::no::no::no::no::no::no::no::no::no::no::no::no::no::no::no::no::no::no::no::no::no::no::so 0::so 1::so 2::so 3::so 4::so 5::so 6::so 7::so 8::so 9::so 10::[])
      (fun _ w'=>Below wW.heap.size wW w') (fun _ w w'=>Below w.heap.size w w') ?mixK32st32T ?okK32st32T ?tabK32st32T ?frK32st32T ?inK32st32T ?keptK32st32T ?startK32st32T ?eachK32st32T ?finK32st32T
     case mixK32st32T|okK32st32T|tabK32st32T|frK32st32T=>kernel_rfl
     case inK32st32T=>rfl
     case keptK32st32T=>((repeat refine⟨fun _ _ _ _ _ _ _ _ _ _ _ h=>h,?_⟩);exact trivial)
     case startK32st32T=>exact hgo.out
     case eachK32st32T=>
      repeat' first|exact trivial|refine And.intro ?_ ?_
      ·intro w L f hC hLi hLd hLn ⟨d,_⟩;refine au.live rfl ?_;exact aj (v:=f 8) rfl (hC) (Below.refl _ _) d
      ·intro w L f hC hLi hLd hLn ⟨d,_⟩;refine au.live rfl ?_;exact aj (v:=f 144) rfl (hC) (Below.refl _ _) d
      ·intro w L f hC hLi hLd hLn ⟨a,d145,_⟩;change _=_ at a d145;refine au.live (show ak _ (f 145)=true by rw[d145];rfl) ?_;obtain⟨⟨p0,p1,p2,p3,pl⟩,z1,z2,zl⟩:=hfc.out w hC;obtain⟨ev,ec,ef⟩:=evs f;refine aj ?_ hC (Below.refl _ _) rfl;go_simp
      ·intro w L f hC hLi hLd hLn ⟨d9,d145,_⟩;change _=_ at d9 d145;refine au.live (show ak _ (f 145)=true by rw[d145];rfl) ?_;exact aj (v:=f 9) rfl (hC) (Below.refl _ _) d9
      ·intro w L f hC hLi hLd hLn ⟨d10,d145,_⟩;change _=_ at d10 d145;refine au.live (show ak _ (f 145)=true by rw[d145];rfl) ?_;exact aj (v:=f 10) rfl (hC) (Below.refl _ _) d10
      ·intro w L f hC hLi hLd hLn ⟨a,b,d145,_⟩;change _=_ at a b d145;refine au.live (show ak _ (f 145)=true by rw[d145];rfl) ?_;obtain⟨⟨p0,p1,p2,p3,pl⟩,z1,z2,zl⟩:=hfc.out w hC;obtain⟨ev,ec,ef⟩:=evs f;refine aj ?_ hC (Below.refl _ _) rfl;go_simp
      iterate 2 (intro w L f hC hLi hLd hLn ⟨a,d145,_⟩;change _=_ at a d145;refine au.live (show ak _ (f 145)=true by rw[d145];rfl) ?_;obtain⟨⟨p0,p1,p2,p3,pl⟩,z1,z2,zl⟩:=hfc.out w hC;obtain⟨ev,ec,ef⟩:=evs f;refine aj ?_ hC (Below.refl _ _) rfl;go_simp)
      ·intro w L f hC hLi hLd hLn ⟨a,b,d145,_⟩;change _=_ at a b d145;refine au.live (show ak _ (f 145)=true by rw[d145];rfl) ?_;obtain⟨ev,ec,ef⟩:=evs f;refine aF (f:=142) (args:= #[.agg #[.string (ay F.nm),.slice F.A1 F.ps.length F.c1,.slice F.A2 F.ls.length F.c2,.slice F.A3 F.n3 F.c3],.string (ay an)]) (w:=w) (by go_simp) (ck.out w hC) ?_;rintro e w1 ⟨he,hB⟩;exact⟨_,he,hC.trans (hB.mono hC.size),hB,rfl⟩
      ·intro w L f hC hLi hLd hLn ⟨a,d145,_⟩;change _=_ at a d145;refine au.live (show ak _ (f 145)=true by rw[d145];rfl) ?_;obtain⟨ev,ec,ef⟩:=evs f;refine aj ?_ (hC) (Below.refl _ _) rfl;go_simp
      ·intro w L f hC hLi hLd hLn ⟨a,b,_⟩;change _=_ at a b;refine au.live rfl ?_;obtain⟨ev,ec,ef⟩:=evs f;refine aj ?_ (hC) (Below.refl _ _) rfl;go_simp
      ·intro w L f hC hLi hLd hLn ⟨d,_⟩;refine au.live rfl ?_;exact aj (v:=f 154) rfl (hC) (Below.refl _ _) d
     intro x w' hC hV
     have e8:=hV 11 _ rfl rfl;obtain⟨y1,y2⟩:=hnext.out _ hC;have z1:=Za y1;have z2:=Za y2;clear hV hC y1 y2 hnext hfc ck;simp only[framed];rw[e8];go_wp2_with fail;exact⟨⟨j+1,_,cs,by omega,by simp,rfl,hbn,z1,z2⟩,by simp[intOf];omega⟩
   |false=>
    have cp:=Za (m_ F ae wW _ hBW.out.rf.ok hxW.out);unfold FnV.cells at cp;go_wp2_with fail
    go_still_tail 6,(by kernel_rfl)
    change wpList _ _ _ _ _ wl.drew;rw[hfd.out];clear p0 p1 p2 p3 pl s0 s1 s2 s3 s4 s5 s6 s7 s8 s9 sl z0 z1 z2 zl hfd hgo;go_wp2_with fail;refine cp.out.mono ?_;clear cp;rintro e5 w5 ⟨rfl,hb5⟩;have hB5:=Za (hBW.out.below hb5);have hAR5:=Za (pO.out.below hb5);have hb5':=Za (hbW.out.trans (hb5.mono hbW.out.size));have hx5:=Za (hxW.out.below hb5);clear hb5 hBW pO hbW hxW;obtain⟨ve,y0,y1,y2,hxe,hnm⟩:=hAR5.out.2 j hlt
    have hjj:iF F.K hg j j=⟨false,an,ae⟩:=by unfold iF;rw[if_neg (by omega)];exact hgd.out
    rw[hjj]at y0 y1 hxe;have z0:w5.cell? ⟨ga,j*3,none⟩=some (.bool false):=(hAR5.out.1.cell _).trans y0;have z1:w5.cell? ⟨ga,j*3+1,none⟩=some (.string (ay an)):=(hAR5.out.1.cell _).trans y1;have z2:w5.cell? ⟨ga,j*3+2,none⟩=some ve:=(hAR5.out.1.cell _).trans y2;have zl:=hAR5.out.1.lt;have zf:=Za fun i=>hAR5.out.1.frozen i;obtain⟨pz,rfl⟩:=hxe.vp;have hxz:=Za hxe;clear y0 y1 y2 hxe hnm hjj hx5
    cases hp:dN F.K ae with
    |true=>
     cases ae with
     |nil=>cases hp
     |mk ek en nm ea eb=>
      obtain⟨gx,va,vb,e1,hS,hnmx,-,hH,-,-⟩:=hxz.out;injection e1 with e1;subst e1;have x2:w5.cell? ⟨gx,2,none⟩=some (.string (ay nm)):=hH.cell 2;have xl:=hH.lt
      have hga:¬(ga<wc.heap.size∧Apt S gs gr w.heap.size ga):=fun h=>by have h1:=hgb'.out;have h2:=h.1;omega
      have hput:=hAR5.out.put hga hlt hnmx;obtain⟨w6,hw6⟩:∃y,y=((w5.setCell ⟨ga,j*3,none⟩ (.bool true)).setCell ⟨ga,j*3+1,none⟩ (.string (ay nm))).setCell ⟨ga,j*3+2,none⟩ (.pointer none):=⟨_,rfl⟩;rw[←hw6]at hput
      have hW6:Writes [some ga] w5 w6:=by rw[hw6];exact((Writes.store w5 (by simp) _).trans (Writes.store _ (by simp) _)).trans (Writes.store _ (by simp) _)
      have hb6:=Za (hb5'.out.trans (hW6.below hb5'.out.size fun k hk=>by simp at hk;subst hk;exact hgb'.out))
      have hgo:Hid (gB w6 (fun x=>x<wc.heap.size∧Apt S gs gr w.heap.size x) ga na (iF F.K hg (j+1)) _):=Za (hput.congr fun i hi=>by
       unfold iF;by_cases h2:i=j
       ·rw[if_pos (by omega),h2,hgd.out,if_pos rfl];unfold fG;simp[hp,Ex.name]
       ·rw[if_neg h2];by_cases h1:i<j
        ·rw[if_pos h1,if_pos (by omega)]
        ·rw[if_neg h1,if_neg (by omega)])
      have hbn:Hid (bj=(b0&&((hg.take (j+1)).all fun a=>(jf F.K a).2))):=Za (by rw[hsn.out,←Bool.and_assoc,←hbj.out];unfold jf;simp[hp]);have hf6:=Za hw6.symm;have f0:=zf.out (j*3);have f1:=zf.out (j*3+1);have f2:=zf.out (j*3+2);clear hp hput hw6 hW6 hH hS hga hnmx;go_wp2_with fail;rw[hf6.out];exact⟨⟨j+1,bj,_,by omega,by simp,rfl,hbn,hgo,hb6⟩,by simp[intOf];omega⟩
    |false=>
     have hsame:fG F.K ⟨false,an,ae⟩=⟨false,an,ae⟩:=by unfold fG;simp[hp]
     have haf:(jf F.K ⟨false,an,ae⟩).2=dJ F.K ae:=by unfold jf;simp[hp]
     obtain⟨wW,hwd⟩:∃y,y=w5.drew:=⟨_,rfl⟩
     have hbd:Below w5.heap.size w5 wW:=by rw[hwd];exact(Below.refl _ w5).drew
     have hBW:=Za (hB5.out.below hbd);have pO:=Za (hAR5.out.below hbd);have hbW:=Za (hb5'.out.trans (hbd.mono hb5'.out.size));have hxW:=Za ((hxz.out.below hbd).mono (S':=Evr) fun _ _ _=>trivial);have hfd:=Za hwd.symm;have hgo:Hid (Below wW.heap.size wW w5.drew):=Za (by rw[←hwd];exact Below.refl _ _);obtain⟨px,hpx⟩:∃y,y=pz:=⟨_,rfl⟩;rw[←hpx]at z2 hxW
     have hfc:Hid (∀w':World,Below wW.heap.size wW w'→_∧w'.cell? ⟨ga,j*3+1,none⟩=some (.string (ay an))∧w'.cell? ⟨ga,j*3+2,none⟩=some (.pointer px)∧ga<w'.heap.size):=Za fun w' hb=>by
      have hH:=pO.out.1.below hb pO.out.1.lt;refine⟨(hBW.out.below hb).rf.facts,(hb.cell (p:=⟨ga,j*3+1,none⟩) pO.out.1.lt).trans ?_,(hb.cell (p:=⟨ga,j*3+2,none⟩) pO.out.1.lt).trans ?_,hH.lt⟩
      ·rw[←hfd.out];exact z1
      ·rw[←hfd.out];exact z2
     have ci:=Za fun(w:World) (hb:Below wW.heap.size wW w)=>eG F ae w _ (hBW.out.rf.ok.below hb) (hxW.out.below hb);unfold FnV.cells at ci;have hnext:Hid (∀w',Below wW.heap.size wW w'→gB w' (fun x=>x<wc.heap.size∧Apt S gs gr w.heap.size x) ga na (iF F.K hg (j+1)) cs∧Below wc.heap.size wc w'):=Za fun w' hb=>⟨vw hgd.out hsame (pO.out.below hb),hbW.out.trans (hb.mono hbW.out.size)⟩;have haf':=Za haf;clear hsame hp hwd hbd hxz zf haf hpx;go_wp2_with fail;clear z0 z1 z2 zl
     cases bj with
     |false=>
      have hbn:Hid (false=(b0&&((hg.take (j+1)).all fun a=>(jf F.K a).2))):=Za (by rw[hsn.out,←Bool.and_assoc,←hbj.out];rfl);refine aC ((eqv (.bool false))::(eqv (.bool false))::eud::eud::eud::eud::eud::eud::eud::(eqv (.bool false))::(eqv (.bool false))::[])
       ((rn1 8)::(rd1 174 0)::(rq1 2 175 1)::(rq1 9 175 1)::(rq1 10 175 1)::⟨[(177,some 3),(178,some 4),(175,some 1)],175,[]⟩::(rg1 179 5 175 1)::(rg1 180 6 175 1)::⟨[(176,some 2),(181,some 7),(175,some 1)],175,[]⟩::⟨[(175,some 1),(182,some 8)],0,[]⟩::(rd1 183 9)::[])
       (no::no::no::no::no::no::no::no::so 10::no::no::no::no::no::no::no::no::no::no::no::no::no::no::no::no::no::no::no::no::no::no::no::no::no::no::no::no::no::no::no::no::no::no::no::no::no::no::no::no::no::no::no::no::no::no::no::no::no::no::no::no::no::no::no::no::no::no::no::no::no::no::no::no::no::no::no::no::no::no::no::no::no::no::no::no::no::no::no::no::no::no::no::no::no::no::no::no::no::no::no::no::no::no::no::no::no::no::no::no::no::no::no::no::no::no::no::no::no::no::no::no::no::no::no::no::no::no::no::no::no::no::no::no::no::no::no::no::no::no::no::no::no::no::no::no::no::no::no::no::no::no::no::no::no::no::no::no::no::no::no::no::no::no::no::no::no::no::no::no::no::no::no::no::no::so 0::so 1::so 2::so 3::so 4::so 5::so 6::so 7::so 8::so 9::[])
       (fun _ w'=>Below wW.heap.size wW w') (fun _ w w'=>Below w.heap.size w w') ?mixK35st35F ?okK35st35F ?tabK35st35F ?frK35st35F ?inK35st35F ?keptK35st35F ?startK35st35F ?eachK35st35F ?finK35st35F
      case mixK35st35F|okK35st35F|tabK35st35F|frK35st35F=>kernel_rfl
      case inK35st35F=>rfl
      case keptK35st35F=>((repeat refine⟨fun _ _ _ _ _ _ _ _ _ _ _ h=>h,?_⟩);exact trivial)
      case startK35st35F=>exact hgo.out
      case eachK35st35F=>
       repeat' first|exact trivial|refine And.intro ?_ ?_
       ·intro w L f hC hLi hLd hLn ⟨d,_⟩;refine au.live rfl ?_;exact aj (v:=f 8) rfl (hC) (Below.refl _ _) d
       ·intro w L f hC hLi hLd hLn ⟨d,_⟩;refine au.live rfl ?_;exact aj (v:=f 174) rfl (hC) (Below.refl _ _) d
       iterate 3 (intro w L f hC hLi hLd hLn ⟨_,d,_⟩;refine aI.dead (show ak _ (f 175)=false by rw[show f 175=_ from d];rfl) (hC) ?_ (Below.refl _ _);exact rfl)
       ·intro w L f hC hLi hLd hLn ⟨_,_,d,_⟩;refine aI.dead (show ak _ (f 175)=false by rw[show f 175=_ from d];rfl) (hC) ?_ (Below.refl _ _);exact rfl
       iterate 2 (intro w L f hC hLi hLd hLn ⟨_,d,_⟩;refine aI.dead (show ak _ (f 175)=false by rw[show f 175=_ from d];rfl) (hC) ?_ (Below.refl _ _);exact rfl)
       ·intro w L f hC hLi hLd hLn ⟨_,_,d,_⟩;refine aI.dead (show ak _ (f 175)=false by rw[show f 175=_ from d];rfl) (hC) ?_ (Below.refl _ _);exact rfl
       ·intro w L f hC hLi hLd hLn ⟨a,b,_⟩;change _=_ at a b;refine au.live rfl ?_;obtain⟨ev,ec,ef⟩:=evs f;refine aj ?_ (hC) (Below.refl _ _) rfl;go_simp
       ·intro w L f hC hLi hLd hLn ⟨d,_⟩;refine au.live rfl ?_;exact aj (v:=f 183) rfl (hC) (Below.refl _ _) d
      intro x w' hC hV
      have e8:=hV 10 _ rfl rfl;obtain⟨y1,y2⟩:=hnext.out _ hC;have z1:=Za y1;have z2:=Za y2;clear hV hC y1 y2 hnext hfc ci;simp only[framed];rw[e8];go_wp2_with fail;exact⟨⟨j+1,false,cs,by omega,by simp,rfl,hbn,z1,z2⟩,by simp[intOf];omega⟩
     |true=>
      have hbn:Hid (dJ F.K ae=(b0&&((hg.take (j+1)).all fun a=>(jf F.K a).2))):=Za (by rw[hsn.out,←Bool.and_assoc,←hbj.out,Bool.true_and];exact haf'.out.symm);refine aC ((eqv (.bool true))::(eqv (.bool true))::(eqv (.agg #[.string (ay F.nm),.slice F.A1 F.ps.length F.c1,.slice F.A2 F.ls.length F.c2,.slice F.A3 F.n3 F.c3]))::(eqv (.slice (some ⟨ga,0,none⟩) na cap))::(eqv (.int .i64 j))::(eqv (.pointer (some ⟨ga,j*3,none⟩)))::(eqv (.pointer (some ⟨ga,j*3+2,none⟩)))::(eqv (.pointer px))::(eqv (.bool (dJ F.K ae)))::(eqv (.bool (dJ F.K ae)))::(eqv (.bool (dJ F.K ae)))::[])
       ((rn1 8)::(rd1 174 0)::(rq1 2 175 1)::(rq1 9 175 1)::(rq1 10 175 1)::⟨[(177,some 3),(178,some 4),(175,some 1)],175,[]⟩::(rg1 179 5 175 1)::(rg1 180 6 175 1)::⟨[(176,some 2),(181,some 7),(175,some 1)],175,[]⟩::⟨[(175,some 1),(182,some 8)],0,[]⟩::(rd1 183 9)::[])
       (no::no::no::no::no::no::no::no::so 10::no::no::no::no::no::no::no::no::no::no::no::no::no::no::no::no::no::no::no::no::no::no::no::no::no::no::no::no::no::no::no::no::no::no::no::no::no::no::no::no::no::no::no::no::no::no::no::no::no::no::no::no::no::no::no::no::no::no::no::no::no::no::no::no::no::no::no::no::no::no::no::no::no::no::no::no::no::no::no::no::no::no::no::no::no::no::no::no::no::no::no::no::no::no::no::no::no::no::no::no::no::no::no::no::no::no::no::no::no::no::no::no::no::no::no::no::no::no::no::no::no::no::no::no::no::no::no::no::no::no::no::no::no::no::no::no::no::no::no::no::no::no::no::no::no::no::no::no::no::no::no::no::no::no::no::no::no::no::no::no::no::no::no::no::no::so 0::so 1::so 2::so 3::so 4::so 5::so 6::so 7::so 8::so 9::[])
       (fun _ w'=>Below wW.heap.size wW w') (fun _ w w'=>Below w.heap.size w w') ?mixK35st35T ?okK35st35T ?tabK35st35T ?frK35st35T ?inK35st35T ?keptK35st35T ?startK35st35T ?eachK35st35T ?finK35st35T
      case mixK35st35T|okK35st35T|tabK35st35T|frK35st35T=>kernel_rfl
      case inK35st35T=>rfl
      case keptK35st35T=>((repeat refine⟨fun _ _ _ _ _ _ _ _ _ _ _ h=>h,?_⟩);exact trivial)
      case startK35st35T=>exact hgo.out
      case eachK35st35T=>
       repeat' first|exact trivial|refine And.intro ?_ ?_
       ·intro w L f hC hLi hLd hLn ⟨d,_⟩;refine au.live rfl ?_;exact aj (v:=f 8) rfl (hC) (Below.refl _ _) d
       ·intro w L f hC hLi hLd hLn ⟨d,_⟩;refine au.live rfl ?_;exact aj (v:=f 174) rfl (hC) (Below.refl _ _) d
       ·intro w L f hC hLi hLd hLn ⟨a,d175,_⟩;change _=_ at a d175;refine au.live (show ak _ (f 175)=true by rw[d175];rfl) ?_;obtain⟨⟨p0,p1,p2,p3,pl⟩,z1,z2,zl⟩:=hfc.out w hC;obtain⟨ev,ec,ef⟩:=evs f;refine aj ?_ hC (Below.refl _ _) rfl;go_simp
       ·intro w L f hC hLi hLd hLn ⟨d9,d175,_⟩;change _=_ at d9 d175;refine au.live (show ak _ (f 175)=true by rw[d175];rfl) ?_;exact aj (v:=f 9) rfl (hC) (Below.refl _ _) d9
       ·intro w L f hC hLi hLd hLn ⟨d10,d175,_⟩;change _=_ at d10 d175;refine au.live (show ak _ (f 175)=true by rw[d175];rfl) ?_;exact aj (v:=f 10) rfl (hC) (Below.refl _ _) d10
       ·intro w L f hC hLi hLd hLn ⟨a,b,d175,_⟩;change _=_ at a b d175;refine au.live (show ak _ (f 175)=true by rw[d175];rfl) ?_;obtain⟨⟨p0,p1,p2,p3,pl⟩,z1,z2,zl⟩:=hfc.out w hC;obtain⟨ev,ec,ef⟩:=evs f;refine aj ?_ hC (Below.refl _ _) rfl;go_simp
       iterate 2 (intro w L f hC hLi hLd hLn ⟨a,d175,_⟩;change _=_ at a d175;refine au.live (show ak _ (f 175)=true by rw[d175];rfl) ?_;obtain⟨⟨p0,p1,p2,p3,pl⟩,z1,z2,zl⟩:=hfc.out w hC;obtain⟨ev,ec,ef⟩:=evs f;refine aj ?_ hC (Below.refl _ _) rfl;go_simp)
       ·intro w L f hC hLi hLd hLn ⟨a,b,d175,_⟩;change _=_ at a b d175;refine au.live (show ak _ (f 175)=true by rw[d175];rfl) ?_;obtain⟨ev,ec,ef⟩:=evs f;refine aF (f:=144) (args:= #[.agg #[.string (ay F.nm),.slice F.A1 F.ps.length F.c1,.slice F.A2 F.ls.length F.c2,.slice F.A3 F.n3 F.c3],.pointer px]) (w:=w) (by go_simp) (ci.out w hC) ?_;rintro e w1 ⟨he,hB⟩;exact⟨_,he,hC.trans (hB.mono hC.size),hB,rfl⟩
       ·intro w L f hC hLi hLd hLn ⟨a,b,_⟩;change _=_ at a b;refine au.live rfl ?_;obtain⟨ev,ec,ef⟩:=evs f;refine aj ?_ (hC) (Below.refl _ _) rfl;go_simp
       ·intro w L f hC hLi hLd hLn ⟨d,_⟩;refine au.live rfl ?_;exact aj (v:=f 183) rfl (hC) (Below.refl _ _) d
      intro x w' hC hV
      have e8:=hV 10 _ rfl rfl;obtain⟨y1,y2⟩:=hnext.out _ hC;have z1:=Za y1;have z2:=Za y2;clear hV hC y1 y2 hnext hfc ci;simp only[framed];rw[e8];go_wp2_with fail;exact⟨⟨j+1,_,cs,by omega,by simp,rfl,hbn,z1,z2⟩,by simp[intOf];omega⟩
  ·obtain rfl:j=na:=by omega
   have hlast:aZ wl (Apt S gs gr w.heap.size) (hg.map (fG F.K)) (.slice (some ⟨ga,0,none⟩) (hg.map (fG F.K)).length cap):=by
    have h1:=hAR.out.ags (l:=hg.map (fG F.K)) (by rw[List.length_map,←hna'.out]) (fun i hi=>by
     rw[List.getElem_map];unfold iF
     have hi2:i<hg.length:=by simpa using hi
     rw[if_pos (by rw[hna'.out];exact hi2)]
     simp[List.getD_eq_getElem?_getD,List.getElem?_eq_getElem hi2]) hna5 hcap'.out
    rw[List.length_map,←hna'.out];refine h1.mono fun x hx hh=> ?_;rcases hh with hh|hh
    ·exact hh.2
    ·have h2:=hgb'.out;have h3:=hB2.out.hr.lt;have h4:=hB2.out.hs.lt;have h5:=hB2.out.rf.bl.size;exact⟨by omega,by omega,.inr (by omega)⟩
   have hB9:=hBl.out.Dn hF0.out _ hlast;obtain⟨w9,hw9⟩:∃y,y=wl.setCell ⟨gs,6,none⟩ (.slice (some ⟨ga,0,none⟩) j cap):=⟨_,rfl⟩;have hf9:=Za hw9.symm;rw[List.length_map,←hna'.out,←hw9]at hB9;replace hB9:=Za hB9;have hbn:Hid (bj=(b0&&(hg.all fun a=>(jf F.K a).2))):=Za (by have h1:=hbj.out;rw[List.take_of_length_le (by rw[←hna'.out];exact Nat.le_refl _)]at h1;exact h1);have f6:=hBl.out.hs.frozen 6;clear hw9 hlast hAR;obtain⟨⟨p0,p1,p2,p3,pl⟩,⟨s0,s1,s2,s3,s4,s5,s6,s7,s8,s9,sl⟩⟩:=hBl.out.facts;go_upto_region 39 with(fail);rw[hf9.out];clear f6 p0 p1 p2 p3 pl s0 s1 s2 s3 s4 s5 s6 s7 s8 s9 sl;obtain⟨⟨p0,p1,p2,p3,pl⟩,⟨s0,s1,s2,s3,s4,s5,s6,s7,s8,s9,sl⟩⟩:=hB9.out.facts;obtain⟨r0,r1,r2,r3,r4,r5,r6,r7,r8,r9,rl,rf⟩:=hB9.out.fr;have f0:=rf.out 0;have f1:=rf.out 1;have f2:=rf.out 2;have f3:=rf.out 3;have f4:=rf.out 4;have f5:=rf.out 5;have f6:=rf.out 6;have f7:=rf.out 7;have f8:=rf.out 8;have f9:=rf.out 9;go_wp2_with fail
   exact StB.fin hB9.out ⟨8,hx,hy,he,hf,hc,hg,ha⟩ (ok:=bj) (by rw[vJ,hbn.out,hb0'.out,←hX.out,←hY.out]) (fun hh=>⟨by rw[vJ],by simp[turned]⟩) rfl rfl rfl rfl Tryz.underlying63 Tryz.sStmt
end Go.Proofs.YtpndglghpojjkaaGreat
