/-
  10 texts of the proof, in one file: no condition.
-/
import Derived.Shelf.SlIter.Nil
import Derived.Shelf.SortM.Plain
import Derived.Shelf.SortM.SortNone
import Derived.Ground.GgzProg
import Derived.Ground.SlgmProg
import Derived.Test.YtpndglghpojjkaaGreatPua11
set_option maxRecDepth 1000000
set_option maxHeartbeats 8000000
namespace Go.Proofs.YtpndglghpojjkaaGreat
open Go.RowKit
section
variable {Γ:Type}
def BZ (ops:Array Oper) (V:Nat→(Nat→Bool)→World×Γ→Value→Prop) (L:Nat→Bool) (tmps:Array Value) (w:World×Γ):List Nat→Prop
 | []=>True
 |j::r=>(match (ops[j]?).bind (·.dst)with|some d=>V j L w (tmps.getD d undef)|none=>True)∧BZ ops V L tmps w r
def wu (P:Program) (ops:Array Oper) (V:Nat→(Nat→Bool)→World×Γ→Value→Prop) (C:(Nat→Bool)→World×Γ→Prop) (G:Nat→World×Γ→World×Γ→Prop) (i:Nat) (o:Oper) (a:Act):Prop:=
 ∀w (γ:Γ) L,C L (w,γ)→L i=false→(∀j∈aP o,L j=true)→(∀j,reach ops ops.size j i=true→L j=false)→BZ ops V L a.tmps (w,γ) (aP o)→
  if Region.wanted o (yielded ops a.tmps)then fH P (fun v w'=>∃γ',C (fun k=>k==i||L k) (w',γ')∧G i (w,γ) (w',γ')∧V i (fun k=>k==i||L k) (w',γ') v) ((execOp a.eval o).run P w)
  else V i (fun k=>k==i||L k) (w,γ) undef∧C (fun k=>k==i||L k) (w,γ)∧G i (w,γ) (w,γ)
section
variable {P:Program} {ops:Array Oper} {V:Nat→(Nat→Bool)→World×Γ→Value→Prop} {C:(Nat→Bool)→World×Γ→Prop} {G:Nat→World×Γ→World×Γ→Prop} {Q:Act→World→Prop}
structure G9 (ops:Array Oper) (V:Nat→(Nat→Bool)→World×Γ→Value→Prop) (C:(Nat→Bool)→World×Γ→Prop) (a0:Act) (listed:Array Bool) (a:Act) (w:World×Γ):Prop where
 cls:C (fun k=>listed.getD k true) w
 lsize:listed.size=ops.size
 size:a.tmps.size=a0.tmps.size
 defers:a.defers=a0.defers
 closed:∀(i:Nat) o,ops[i]? =some o→listed.getD i true=true→∀j∈aP o,listed.getD j true=true
 done:∀(i:Nat) o,ops[i]? =some o→listed.getD i true=true→∀d,o.dst=some d→V i (fun k=>listed.getD k true) w (a.tmps.getD d undef)
 rest:∀t,(∀(i:Nat) o,ops[i]? =some o→listed.getD i true=true→o.dst≠some t)→a.tmps.getD t undef=a0.tmps.getD t undef
theorem yB {a0:Act} {Q':Exit→Act→World→Prop} (hok:lI ops=true) (hN:∀(i:Nat) o d,ops[i]? =some o→o.dst=some d→d<a0.tmps.size)
  (hmono:∀(i j:Nat) oj,ops[j]? =some oj→i∉aP oj→i≠j→∀L w w' v,L i=false→C L w→C (fun k=>k==i||L k) w'→G i w w'→V j L w v→V j (fun k=>k==i||L k) w' v) (steps:∀x (i:Nat) o,ops[i]? =some o→wu P ops V C G i o (bW ops x a0 i))
  (hQ:∀x w,C (fun _=>true) w→(∀(k:Nat) o,ops[k]? =some o→o.dst.isSome=true→V k (fun _=>true) w (x k))→Q' .normal (bW ops x a0 ops.size) w.1):
  ∀(fuel:Nat) (listed:Array Bool) (a:Act) (w:World) (γ:Γ),iW ops.size listed=fuel→G9 ops V C a0 listed a (w,γ)→wpAny P .any ops Q' fuel listed a w:=by
 have hend:∀(listed:Array Bool) (a:Act) (w:World×Γ),(∀i,i<ops.size→listed.getD i true=true)→G9 ops V C a0 listed a w→Q' .normal a w.1:=by
  intro listed a w hall hl;have hC:=hl.cls
  have hlt:(fun k=>listed.getD k true)=fun _=>true:=funext fun k=>by
   by_cases hk:k<ops.size
   ·exact hall k hk
   ·rw[Array.getD_eq_getD_getElem?,Array.getElem?_eq_none (by rw[hl.lsize];omega)];rfl
  rw[hlt]at hC
  have hq:=hQ (valsOf ops a) w hC fun k o hk hs=>by obtain⟨d,hd⟩:=Option.isSome_iff_exists.1 hs;have:=hl.done k _ hk (hall k (Array.getElem?_eq_some_iff.1 hk).1) d hd;rw[hlt]at this;unfold valsOf;rw[hk];simp only[Option.bind_some,hd];exact this
  have e:bW ops (valsOf ops a) a0 ops.size=a:=by
   have hsz:(bW ops (valsOf ops a) a0 ops.size).tmps.size=a.tmps.size:=by rw[dZ,hl.size]
   have hd:(bW ops (valsOf ops a) a0 ops.size).defers=a.defers:=by rw[jK,hl.defers]
   have ht:(bW ops (valsOf ops a) a0 ops.size).tmps=a.tmps:=by
    apply Array.ext_getElem?;intro t;apply iZ hsz;by_cases hw:∃j,j<ops.size∧(ops[j]?).bind (·.dst)=some t
    ·exact fU hl.size _ _ hw
    ·rw[dV _ _ _ _ (fun j hj hd=>hw ⟨j,hj,hd⟩)];exact(hl.rest t fun i o hi _ hd=>hw ⟨i,(Array.getElem?_eq_some_iff.1 hi).1,by rw[hi];exact hd⟩).symm
   cases h1:bW ops (valsOf ops a) a0 ops.size;cases a;simp only[h1]at hd ht;rw[hd,ht]
  rw[e]at hq;exact hq
 intro fuel
 induction fuel with
 |zero=>
  intro listed a w γ hu hl
  have hall:∀i,i<ops.size→listed.getD i true=true:=by intro i hi;have:=List.eq_nil_of_length_eq_zero hu;have h2:=List.filter_eq_nil_iff.1 this i (List.mem_range.2 hi);simpa using h2
  refine⟨?_,hend listed a (w,γ) hall hl⟩;unfold Region.ready;rw[List.filter_eq_nil_iff];intro i hi;simp[hall i (List.mem_range.1 hi)]
 |succ fuel ih=>
  intro listed a w γ hu hl;refine⟨fun hr=>hend listed a (w,γ) ?_ hl,fun i hi=> ?_⟩
  ·have hall:∀n,∀i,i<n→i<ops.size→listed.getD i true=true:=by
    intro n
    induction n with
    |zero=>intro i h;omega
    |succ n ihn=>
     intro i hin hio;by_cases hlt:i<n
     ·exact ihn i hlt hio
     ·obtain rfl:i=n:=by omega
      unfold Region.ready at hr;have h2:=List.filter_eq_nil_iff.1 hr i (List.mem_range.2 hio)
      cases hb:listed.getD i true with
      |true=>rfl
      |false=>
       exfalso;apply h2;have hoi:ops[i]? =some ops[i]:=Array.getElem?_eq_getElem hio;have fP:=(dW hok hoi).1;rw[hb,hoi];simp only[Bool.not_false,Bool.true_and,Option.map_some,Option.getD_some];rw[Array.all_eq_true_iff_forall_mem];intro e he
       cases hbn:Region.binds .any e with
       |false=>rfl
       |true=>
        have hm:e.on∈aP ops[i]:=List.mem_map.2 ⟨e,List.mem_filter.2 ⟨by simpa using he,hbn⟩,rfl⟩;have h3:=ihn e.on (fP _ hm) (by have:=fP _ hm;omega)
        have h4:e.on<listed.size:=by rw[hl.lsize];have:=fP _ hm;omega
        simp only[Array.getD_eq_getD_getElem?,Array.getElem?_eq_getElem h4]at h3⊢;simpa using h3
   exact fun i hi=>hall (i+1) i (by omega) hi
  ·unfold Region.ready at hi;obtain⟨hir,hcond⟩:=List.mem_filter.1 hi;have hio:=List.mem_range.1 hir;have hoi:ops[i]? =some ops[i]:=Array.getElem?_eq_getElem hio;generalize ops[i]=o at hoi;simp only[hoi,Option.map_some,Option.getD_some,Bool.and_eq_true,Bool.not_eq_true']at hcond;obtain⟨hun,hafter⟩:=hcond;obtain⟨rP,hsel,hshape⟩:=dW hok hoi
   have fP:∀j∈aP o,listed.getD j true=true:=by
    intro j hj;obtain⟨e,he,rfl⟩:=List.mem_map.1 hj;obtain⟨he1,he2⟩:=List.mem_filter.1 he;have h3:=(Array.all_eq_true_iff_forall_mem.1 hafter) e (by simpa using he1);rw[he2]at h3;simp only[Bool.not_true,Bool.false_or]at h3
    have h4:e.on<listed.size:=by rw[hl.lsize];have:=rP _ hj;omega
    simp only[Array.getD_eq_getD_getElem?,Array.getElem?_eq_getElem h4]at h3⊢;simpa using h3
   have hnext:∀j,reach ops ops.size j i=true→listed.getD j true=false:=by
    intro j hj
    cases hb:listed.getD j true with
    |false=>rfl
    |true=>
     have:listed.getD i true=true:=nS (L:=fun k=>listed.getD k true) hl.closed _ _ _ hj hb;rw[hun]at this;cases this
   let x:=valsOf ops a
   have hlook:∀t∈o.looksAt ops,(bW ops x a0 i).tmps.getD t undef=a.tmps.getD t undef:=by
    intro t ht;by_cases hw:∃j,j<i∧(ops[j]?).bind (·.dst)=some t
    ·exact fU hl.size _ _ hw
    ·rw[dV _ _ _ _ (fun j hj hd=>hw ⟨j,hj,hd⟩)];refine(hl.rest t fun k ok hk hlk hdk=> ?_).symm;rcases(hshape k ok t hk hdk).2 ht with h1|h1
     ·exact hw ⟨k,rP k h1,by rw[hk];exact hdk⟩
     ·have:=hl.closed k ok hk hlk i h1;rw[hun]at this;cases this
   have DY:(bW ops x a0 i).tmps.size=a.tmps.size:=by rw[dZ,hl.size]
   have hex:execOp (bW ops x a0 i).eval o=execOp a.eval o:=execOp_congr o hsel fun y hy=>by
    cases y with
    |tmp t=>
     have:t∈o.looksAt ops:=List.mem_append_left _ (List.mem_filterMap.2 ⟨.tmp t,by simpa using hy,rfl⟩);have h5:=hlook t this;simpa[Act.eval]using h5
    |_=>rfl
   have hwt:=oH (ops:=ops) (o:=o) DY hlook
   have xO:∀l:List Nat,(∀j∈l,j∈aP o)→BZ ops V (fun k=>listed.getD k true) (bW ops x a0 i).tmps (w,γ) l:=by
    intro l
    induction l with
    |nil=>intro _;trivial
    |cons j l ihl=>
     intro hj;refine⟨?_,ihl fun k hk=>hj k (List.mem_cons_of_mem _ hk)⟩;have hjd:=hj j (List.mem_cons_self ..);have hji:=rP j hjd;have hoj:ops[j]? =some ops[j]:=Array.getElem?_eq_getElem (by omega);have hd:=hl.done j _ hoj (fP j hjd)
     cases hdst:(ops[j]?).bind (·.dst)with
     |none=>trivial
     |some d=>
      show V j (fun k=>listed.getD k true) (w,γ) _;rw[hoj]at hdst;simp only[Option.bind_some]at hdst;rw[fU hl.size i d ⟨j,hji,by rw[hoj];exact hdst⟩];exact hd d hdst
   have hst:=steps x i o hoi w γ (fun k=>listed.getD k true) hl.cls hun fP hnext (xO _ fun _ h=>h);rw[hwt,hex]at hst
   have hset:∀k,(listed.setIfInBounds i true).getD k true=(k==i||listed.getD k true):=by
    intro k;simp only[Array.getD_eq_getD_getElem?,Array.getElem?_setIfInBounds];by_cases e:i=k
    ·subst e;simp[hl.lsize,hio]
    ·rw[if_neg e];simp[Ne.symm e]
   have go:∀v w' γ',C (fun k=>k==i||listed.getD k true) (w',γ')→(∀(k:Nat) ok,ops[k]? =some ok→i∉aP ok→i≠k→∀u,V k (fun k=>listed.getD k true) (w,γ) u→V k (fun k=>k==i||listed.getD k true) (w',γ') u)→V i (fun k=>k==i||listed.getD k true) (w',γ') v→wpAny P .any ops Q' fuel (listed.setIfInBounds i true) (a.put o.dst v) w':=by
    intro v w' γ' hC hm hV;apply ih _ _ _ γ'
    ·have:=kQ hl.lsize hio hun;omega
    ·refine⟨?_,by simp[hl.lsize],by rw[nU];exact hl.size,by rw[put_defers];exact hl.defers,?_,?_,?_⟩
     ·rw[show(fun k=>(listed.setIfInBounds i true).getD k true)=fun k=>k==i||listed.getD k true from funext hset];exact hC
     ·intro k ok hk hlk j hj;rw[hset]at hlk⊢;by_cases e:k=i
      ·subst e;rw[hoi]at hk;cases hk;rw[fP j hj];simp
      ·have:listed.getD k true=true:=by simpa[e]using hlk
       rw[hl.closed k ok hk this j hj];simp
     ·intro k ok hk hlk d hdst;rw[show(fun k=>(listed.setIfInBounds i true).getD k true)=fun k=>k==i||listed.getD k true from funext hset];rw[hset]at hlk;by_cases e:k=i
      ·subst e;rw[hoi]at hk;cases hk;rw[hdst,fJ,if_pos ⟨rfl,by rw[hl.size];exact hN k o d hoi hdst⟩];exact hV
      ·have xE:listed.getD k true=true:=by simpa[e]using hlk
       have hnd:i∉aP ok:=fun h=>by have:=hl.closed k ok hk xE i h;rw[hun]at this;cases this
       have:=hm k ok hk hnd (Ne.symm e) _ (hl.done k ok hk xE d hdst);have hne:=(hshape k ok d hk hdst).1 (Ne.symm e)
       cases hd2:o.dst with
       |none=>exact this
       |some d2=>
        rw[fJ,if_neg]
        ·exact this
        ·rintro⟨rfl,_⟩;exact hne hd2
     ·intro t ht;have h1:=hl.rest t fun k ok hk hlk=>ht k ok hk (by rw[hset,hlk];simp);have h2:=ht i o hoi (by rw[hset];simp);rw[←h1]
      cases hd2:o.dst with
      |none=>rfl
      |some d2=>
       rw[fJ,if_neg];rintro⟨rfl,_⟩;exact h2 hd2
   unfold wpOp;simp only[hoi];split at hst
   ·rename_i hw;rw[if_pos hw];left;unfold Oper.wp;generalize (execOp a.eval o).run P w=r at hst
    cases r with
    |halt h w'=>exact hst.elim
    |ok n w'=>
     cases n with
     |value v=>obtain⟨γ',h1,h2,h3⟩:=hst;exact go v w' γ' h1 (fun k ok hk hnd hne u=>hmono i k ok hk hnd hne _ (w,γ) (w',γ') u hun hl.cls h1 h2) h3
     |skip=>obtain⟨γ',h1,h2,h3⟩:=hst;exact go undef w' γ' h1 (fun k ok hk hnd hne u=>hmono i k ok hk hnd hne _ (w,γ) (w',γ') u hun hl.cls h1 h2) h3
     |enter f args=>
      refine Calls.mono (show Calls P f args w' _ from hst) ?_;rintro e w'' ⟨v,rfl,γ',h1,h2,h3⟩;exact go v w'' γ' h1 (fun k ok hk hnd hne u=>hmono i k ok hk hnd hne _ (w,γ) (w'',γ') u hun hl.cls h1 h2) h3
     |_=>exact(show False from hst).elim
   ·rename_i hw;rw[if_neg hw];exact go undef w γ hst.2.1 (fun k ok hk hnd hne u=>hmono i k ok hk hnd hne _ (w,γ) (w,γ) u hun hl.cls hst.2.1 hst.2.2) hst.1
theorem BZ.get {L:Nat→Bool} {tmps:Array Value} {w:World×Γ} {l:List Nat} (h:BZ ops V L tmps w l) {j:Nat} (hj:l.contains j=true) {d:Tmp} (hd:(ops[j]?).bind (·.dst)=some d):V j L w (tmps.getD d undef):=by
 induction l with
 |nil=>cases hj
 |cons k l ih=>
  by_cases e:j=k
  ·subst e;have:=h.1;rw[hd]at this;exact this
  ·refine ih h.2 ?_;rw[List.contains_cons]at hj;simpa[e]using hj
def qm (V:Nat→(Nat→Bool)→World×Γ→Value→Prop) (a0:Act) (L:Nat→Bool) (w:World×Γ) (f:Tmp→Value):List (Tmp×Option Nat)→Prop
 | []=>True
 | (t,some j)::r=>V j L w (f t)∧qm V a0 L w f r
 | (t,none)::r=>f t=a0.tmps.getD t undef∧qm V a0 L w f r
def zC (P:Program) (V:Nat→(Nat→Bool)→World×Γ→Value→Prop) (C:(Nat→Bool)→World×Γ→Prop) (G:Nat→World×Γ→World×Γ→Prop) (a0:Act) (i:Nat) (o:Oper) (r:Reads):Prop:=
 ∀w (γ:Γ) L (f:Tmp→Value),C L (w,γ)→L i=false→(∀j∈aP o,L j=true)→(∀j∈r.next,L j=false)→qm V a0 L (w,γ) f r.reads→
  if ak o (f r.guard)=true then fH P (fun v w'=>∃γ',C (fun k=>k==i||L k) (w',γ')∧G i (w,γ) (w',γ')∧V i (fun k=>k==i||L k) (w',γ') v) ((execOp (nI f) o).run P w)
  else V i (fun k=>k==i||L k) (w,γ) undef∧C (fun k=>k==i||L k) (w,γ)∧G i (w,γ) (w,γ)
def kK (P:Program) (V:Nat→(Nat→Bool)→World×Γ→Value→Prop) (C:(Nat→Bool)→World×Γ→Prop) (G:Nat→World×Γ→World×Γ→Prop) (a0:Act):Nat→List Oper→List Reads→Prop
 |_,[],_=>True
 |i,o::l,rs=>zC P V C G a0 i o (rs.headD ⟨[],0,[]⟩)∧kK P V C G a0 (i+1) l rs.tail
theorem kK.get {a0:Act} (l:List Oper):∀(R:List Reads) (i k:Nat) (o:Oper),kK P V C G a0 i l R→l[k]? =some o→zC P V C G a0 (i+k) o ((R.drop k).headD ⟨[],0,[]⟩):=by
 induction l with
 |nil=>intro R i k o _ hk;simp at hk
 |cons o' l ih=>
  intro R i k o h hk
  cases k with
  |zero=>
   simp at hk;subst hk;exact h.1
  |succ k=>
   have h2:=ih R.tail (i+1) k o h.2 (by simpa using hk);rw[List.drop_tail,Nat.add_assoc,Nat.add_comm 1 k]at h2;exact h2
theorem qm.of {L:Nat→Bool} {a0 a:Act} {w:World×Γ} {o:Oper} {i:Nat} (hD:BZ ops V L a.tmps w (aP o)) (ha:∀t:Tmp,(∀(j:Nat) (oj:Oper),ops[j]? =some oj→oj.dst=some t→i∈aP oj)→a.tmps.getD t undef=a0.tmps.getD t undef):
  ∀l:List (Tmp×Option Nat),(l.all fun p=>match p.2 with
    |some j=>(match ops[j]? with|some oj=>oj.dst==some p.1|none=>false)&&(aP o).contains j
    |none=>(List.range ops.size).all fun j=>match ops[j]? with|some oj=>oj.dst !=some p.1|| (aP oj).contains i|none=>true)=true→qm V a0 L w (fun t=>a.tmps.getD t undef) l:=by
 intro l
 induction l with
 |nil=>intro _;trivial
 |cons p l ih=>
  intro h;rw[List.all_cons,Bool.and_eq_true]at h;obtain⟨t,s⟩:=p
  cases s with
  |some j=>
   simp only[Bool.and_eq_true]at h;refine⟨?_,ih h.2⟩
   cases hj:ops[j]? with
   |none=>rw[hj]at h;exact absurd h.1.1 (by simp)
   |some oj=>
    rw[hj]at h;exact hD.get h.1.2 (by rw[hj];simpa using h.1.1)
  |none=>
   refine⟨ha t fun j oj hj hd=> ?_,ih h.2⟩;have h3:=List.all_eq_true.1 h.1 j (List.mem_range.2 (Array.getElem?_eq_some_iff.1 hj).1);simp only[hj,hd,bne_self_eq_false,Bool.false_or]at h3;exact List.contains_iff_mem.1 h3
theorem wu.of {a0:Act} {R:List Reads} (hok:lI ops=true) (htab:oJ ops R=true) (hall:kK P V C G a0 0 ops.toList R) (x:Nat→Value) (i:Nat) (o:Oper) (hi:ops[i]? =some o):
  wu P ops V C G i o (bW ops x a0 i):=by
 intro w γ L hC hL hd hn hD;have hilt:=(Array.getElem?_eq_some_iff.1 hi).1;have ht:=List.all_eq_true.1 htab i (List.mem_range.2 hilt);simp only[hi,Bool.and_eq_true]at ht;have h2:=kK.get ops.toList R 0 i o hall (by simpa using hi);rw[Nat.zero_add]at h2;generalize (R.drop i).headD ⟨[],0,[]⟩=r at ht h2;have hnx:∀j∈r.next,L j=false:=fun j hj=>hn j (List.all_eq_true.1 ht.2 j hj)
 have hf:=qm.of (a0:=a0) (a:=bW ops x a0 i) hD (fun t h=>dV x a0 i t fun j hj hjd=>by
  cases hoj:ops[j]? with
  |none=>rw[hoj]at hjd;cases hjd
  |some oj=>
   rw[hoj]at hjd;have:=(dW hok hoj).1 i (h j oj hoj hjd)
   omega) r.reads ht.1.1
 have h3:=h2 w γ L (fun t=>(bW ops x a0 i).tmps.getD t undef) hC hL hd hnx hf;rw[lS]at h3
 have hw:Region.wanted o (yielded ops (bW ops x a0 i).tmps)=ak o ((bW ops x a0 i).tmps.getD r.guard undef):=by
  unfold Region.wanted ak
  cases hg:o.guard with
  |none=>rfl
  |some g=>
   obtain⟨j,want⟩:=g;have h4:=ht.1.2;rw[hg]at h4;simp only at h4⊢
   cases hoj:ops[j]? with
   |none=>rw[hoj]at h4;exact absurd h4 (by simp)
   |some oj=>
    rw[hoj]at h4
    have hdst:oj.dst=some r.guard:=by simpa using h4
    unfold yielded;simp only[hoj,Option.bind_some,hdst];rw[Array.getD_eq_getD_getElem?]
    cases (bW ops x a0 i).tmps[r.guard]? with
    |none=>rfl
    |some v=>cases v<;>rfl
 rw[hw];exact h3
def kP (C:(Nat→Bool)→World×Γ→Prop) (G:Nat→World×Γ→World×Γ→Prop):Nat→List ((Nat→Bool)→World×Γ→Value→Prop)→List Reads→Prop
 |_,[],_=>True
 |j,f::r,rs=>(∀i,i≠j→((rs.headD ⟨[],0,[]⟩).reads.all fun p=>p.2 !=some i)=true→∀L w w' v,L i=false→C L w→C (fun k=>k==i||L k) w'→G i w w'→f L w v→f (fun k=>k==i||L k) w' v)∧kP C G (j+1) r rs.tail
theorem kP.get:∀(l:List ((Nat→Bool)→World×Γ→Value→Prop)) (R:List Reads) (n:Nat),kP C G n l R→∀i j,i≠n+j→(((R.drop j).headD ⟨[],0,[]⟩).reads.all fun p=>p.2 !=some i)=true→∀L w w' v,L i=false→C L w→C (fun k=>k==i||L k) w'→G i w w'→(l.getD j fun _ _ _=>True) L w v→(l.getD j fun _ _ _=>True) (fun k=>k==i||L k) w' v
 | [],_,_,_,_,_,_,_=>by intro L w w' v _ _ _ _ _;exact trivial
 |f::r,R,n,h,i,0,hne,hr=>h.1 i hne hr
 |f::r,R,n,h,i,j+1,hne,hr=>kP.get r R.tail (n+1) h.2 i j (by omega) (by rw[List.drop_tail];exact hr)
theorem wY {R:List Reads} (htab:oJ ops R=true) {j:Nat} {oj:Oper} (hj:ops[j]? =some oj) {i:Nat} (hi:i∉aP oj):(((R.drop j).headD ⟨[],0,[]⟩).reads.all fun p=>p.2 !=some i)=true:=by
 have ht:=List.all_eq_true.1 htab j (List.mem_range.2 (Array.getElem?_eq_some_iff.1 hj).1);simp only[hj,Bool.and_eq_true]at ht;rw[List.all_eq_true];intro p hp;have h1:=List.all_eq_true.1 ht.1.1 p hp;obtain⟨t,s⟩:=p
 cases s with
 |none=>rfl
 |some k=>
  simp only[Bool.and_eq_true]at h1;have h2:=List.contains_iff_mem.1 h1.2;simp only[bne_iff_ne,ne_eq,Option.some.injEq];rintro rfl;exact hi h2
theorem qM {id:Nat} {a0:Act} {w:World} {Q':Exit→Act→World→Prop} (Vs:List ((Nat→Bool)→World×Γ→Value→Prop)) (R:List Reads) (D:List (Option Nat)) (C:(Nat→Bool)→World×Γ→Prop) (G:Nat→World×Γ→World×Γ→Prop)
  (hm:P.follows .mixedOrders=true) (hok:lI ops=true) (htab:oJ ops R=true) (hfr:oq ops D a0.tmps.size=true) (hN:Ec ops a0.tmps.size=true) (hmono:kP C G 0 Vs R)
  (γ0:Γ) (h0:C (fun k=> !decide (k<ops.size)) ({w with drawn:=w.drawn+1},γ0))
  (each:kK P (fun i=>Vs.getD i fun _ _ _=>True) C G a0 0 ops.toList R)
  (fin:∀(x:Nat→Value) w' γ,C (fun _=>true) (w',γ)→(∀k o,ops[k]? =some o→o.dst.isSome=true→(Vs.getD k fun _ _ _=>True) (fun _=>true) (w',γ) (x k))→Q' .normal ⟨(framed x D a0.tmps.toList).toArray,a0.defers⟩ w'):
  (Code.region id ops true).wp P Q' a0 w:=by
 refine wp_region_any hm (yB (V:=fun i=>Vs.getD i fun _ _ _=>True) (C:=C) (G:=G) (a0:=a0) hok ?_ (fun i j oj hj hi hne=>kP.get Vs R 0 hmono i j (by omega) (wY htab hj hi)) (fun x i o hi=>wu.of hok htab each x i o hi) ?_ ops.size _ a0 _ γ0 ?_ ?_)
 ·intro i o d hi hd;have:=List.all_eq_true.1 hN o (by simpa using Array.mem_of_getElem? hi);rw[hd]at this;simpa using this
 ·intro x w hC hV;rw[lH hok hfr];exact fin x w.1 w.2 hC hV
 ·unfold iW;rw[List.filter_eq_self.2]
  ·simp
  ·intro i hi;have:=List.mem_range.1 hi;simp[this]
 ·refine⟨?_,by simp,rfl,rfl,?_,?_,fun _ _=>rfl⟩
  ·rw[show(fun k=>(Array.replicate ops.size false).getD k true)=fun k=> !decide (k<ops.size)from funext fun k=>by
    rw[Array.getD_eq_getD_getElem?,Array.getElem?_replicate]
    by_cases h:k<ops.size<;>simp[h]]
   exact h0
  ·intro i o hi hl;have:=(Array.getElem?_eq_some_iff.1 hi).1;simp[this]at hl
  ·intro i o hi hl;have:=(Array.getElem?_eq_some_iff.1 hi).1;simp[this]at hl
theorem zC.dead {b:Bool} {X A B D:Prop} (hb:b=false) (h1:B) (h2:A) (h3:D):if b=true then X else A∧B∧D:=by subst hb;exact⟨h2,h1,h3⟩
theorem bZ (γ':Γ) {A B:World×Γ→Prop} {D:World×Γ→Value→Prop} {r:Result Next} (h:fH P (fun v w'=>A (w',γ')∧B (w',γ')∧D (w',γ') v) r):fH P (fun v w'=>∃γ,A (w',γ)∧B (w',γ)∧D (w',γ) v) r:=by
 cases r with
 |halt h' w'=>exact h
 |ok n w'=>
  cases n with
  |value v=>exact⟨γ',h⟩
  |skip=>exact⟨γ',h⟩
  |enter f args=>exact Calls.mono h fun e w'' ⟨v,he,h'⟩=>⟨v,he,γ',h'⟩
  |_=>exact h
end
end
end Go.Proofs.YtpndglghpojjkaaGreat
namespace Go.Proofs.YtpndglghpojjkaaGreat
open Go.RowKit Go.Deep
structure Zs where
 h:Hd
 pe:Option Addr
 pf:Option Addr
 pc:Option Addr
 Aa:Option Addr
 na:Nat
 ca:Nat
 At:Option Addr
 nt:Nat
 ct:Nat
 Al:Option Addr
 nl:Nat
 cl:Nat
def Zs.cells (z:Zs):Array Value:=stC z.h z.pe z.pf z.pc z.Aa z.At z.Al z.na z.ca z.nt z.ct z.nl z.cl
def gy (K:List UInt8→Nat) (h:Hd) (t:Sl):Sl:=if turned K h then .nil else t
def Fre (S:Nat→Prop) (γ:Option Nat) (x:Nat):Prop:=S x∧γ≠some x
def OkZ (S:Nat→Prop) (K:List UInt8→Nat) (h:Hd) (t e:Sl) (z:Zs) (w:World) (γ:Option Nat):Prop:=(aS K h).2=true→z.h=(aS K h).1∧dn w (Fre S γ) z.h (.pointer z.pe) (.pointer z.pf) (.pointer z.pc) (.slice z.Aa z.na z.ca)∧aQ w (Fre S γ) (gy K h t) (.slice z.At z.nt z.ct)∧aQ w (Fre S γ) (gy K h e) (.slice z.Al z.nl z.cl)
section
variable {S:Nat→Prop} {K:List UInt8→Nat} {h:Hd} {t e:Sl} {z:Zs} {w w':World} {γ:Option Nat}
theorem OkZ.keep (H:OkZ S K h t e z w γ) (hk:∀x,x<w.heap.size→Fre S γ x→w'.heap[x]? =w.heap[x]?):OkZ S K h t e z w' γ:=fun hs=>by
 obtain⟨a,b,c,d⟩:=H hs;exact⟨a,b.keep hk,c.keep hk,d.keep hk⟩
theorem OkZ.below (H:OkZ S K h t e z w γ) (hb:Below w.heap.size w w'):OkZ S K h t e z w' γ:=H.keep fun x hx _=>hb.block x hx
theorem OkZ.alloc (H:OkZ S K h t e z w none) (o:Obj):OkZ S K h t e z (w.alloc o) (some w.heap.size):=fun hs=>by
 obtain⟨a,b,c,d⟩:=H hs;have hk:∀x,x<w.heap.size→Fre S none x→Fre S (some w.heap.size) x:=fun x hx hS=>⟨hS.1,fun e=>by simp at e;omega⟩;have hb:=aA w o;exact⟨a,(b.mono hk).keep fun x hx _=>hb.block x hx,(c.mono hk).keep fun x hx _=>hb.block x hx,(d.mono hk).keep fun x hx _=>hb.block x hx⟩
end
theorem sW {Γ:Type} {P:Program} {A B:World×Γ→Prop} {D:World×Γ→Value→Prop} {r:Result Next} {f:FuncId} {args:Array Value} {w:World} {R:Ending→World→Prop} (hr:r= .ok (.enter f args) w) (hc:Calls P f args w R)
  (h:∀e w',R e w'→∃γ v,e= .returned v∧A (w',γ)∧B (w',γ)∧D (w',γ) v):fH P (fun v w'=>∃γ,A (w',γ)∧B (w',γ)∧D (w',γ) v) r:=by
 subst hr
 exact hc.mono fun e w' h'=>by obtain⟨γ,v,he,x⟩:=h e w' h';exact⟨v,he,γ,x⟩
abbrev Gz:=Option Nat×Option Zs
def GSt (i:Nat) (W W':World×Gz):Prop:=(i≠9→W'.2.1=W.2.1)∧(i≠5→W'.2.2=W.2.2)
structure CSt (S:Nat→Prop) (K:List UInt8→Nat) (h:Hd) (t e:Sl) (wW:World) (L:Nat→Bool) (W:World×Gz):Prop where
 bel:Below wW.heap.size wW W.1
 no:L 9=false→W.2.1=none
 made:L 9=true→∃g,W.2.1=some g∧wW.heap.size≤g∧g<W.1.heap.size∧(L 10=false→Holds W.1 g 63 zeroS)
 cl:L 5=true→∃z,W.2.2=some z∧OkZ S K h t e z W.1 W.2.1
 st:L 10=true→∃g z,W.2.1=some g∧W.2.2=some z∧Holds W.1 g 63 z.cells
 ord:L 10=true→L 9=true∧L 5=true
section
variable {S:Nat→Prop} {K:List UInt8→Nat} {h:Hd} {t e:Sl} {wW w w':World} {γ:Gz} {L:Nat→Bool} {i:Nat}
theorem CSt.start (hb:Below wW.heap.size wW w) (h9:L 9=false) (h10:L 10=false) (h5:L 5=false):CSt S K h t e wW L (w,(none,none)):=
 ⟨hb,fun _=>rfl,fun e=>by simp[h9]at e,fun e=>by simp[h5]at e,fun e=>by simp[h10]at e,fun e=>by simp[h10]at e⟩
theorem CSt.other (H:CSt S K h t e wW L (w,γ)) (h5:i≠5) (h9:i≠9) (h10:i≠10) (hb:Below w.heap.size w w'):CSt S K h t e wW (fun k=>k==i||L k) (w',γ):=by
 have e5:(5==i)=false:=by simpa using h5.symm
 have e9:(9==i)=false:=by simpa using h9.symm
 have e10:(10==i)=false:=by simpa using h10.symm
 refine⟨H.bel.trans (hb.mono H.bel.size),fun q=>H.no (by simpa[e9]using q),fun q=> ?_,fun q=> ?_,fun q=> ?_,fun q=> ?_⟩
 ·obtain⟨g,a,b,c,d⟩:=H.made (by simpa[e9]using q);exact⟨g,a,b,Nat.lt_of_lt_of_le c hb.size,fun q=>(d (by simpa[e10]using q)).below hb c⟩
 ·obtain⟨z,a,b⟩:=H.cl (by simpa[e5]using q);exact⟨z,a,b.below hb⟩
 ·obtain⟨g,z,a,b,c⟩:=H.st (by simpa[e10]using q);exact⟨g,z,a,b,c.below hb c.lt⟩
 ·have:=H.ord (by simpa[e10]using q);simp[this.1,this.2]
theorem CSt.alloc (H:CSt S K h t e wW L (w,γ)) (h9:L 9=false):CSt S K h t e wW (fun k=>k==9||L k) (w.alloc (.cells zeroS 63),(some w.heap.size,γ.2)):=by
 have hb:=aA w (.cells zeroS 63)
 have h10:L 10=false:=by
  cases q:L 10 with
  |false=>rfl
  |true=>rw[(H.ord q).1]at h9;cases h9
 have hn:γ.1=none:=H.no h9;refine⟨H.bel.trans (hb.mono H.bel.size),fun q=>by simp at q,fun _=>⟨_,rfl,H.bel.size,by simp,fun _=>Holds.new w _ _⟩,fun q=> ?_,fun q=>by simp[h10]at q,fun q=>by simp[h10]at q⟩;obtain⟨z,a,b⟩:=H.cl (by simpa using q);refine⟨z,a,?_⟩;simp only at b;rw[hn]at b;exact b.alloc _
theorem CSt.call (H:CSt S K h t e wW L (w,γ)) (h10:L 10=false) (z:Zs) (hb:Below w.heap.size w w') (hz:OkZ S K h t e z w' γ.1):CSt S K h t e wW (fun k=>k==5||L k) (w',(γ.1,some z)):=by
 refine⟨H.bel.trans (hb.mono H.bel.size),fun q=>H.no (by simpa using q),fun q=> ?_,fun _=>⟨z,rfl,hz⟩,fun q=>by simp[h10]at q,fun q=>by simp[h10]at q⟩;obtain⟨g,a,b,c,d⟩:=H.made (by simpa using q);exact⟨g,a,b,Nat.lt_of_lt_of_le c hb.size,fun q=>(d (by simpa using q)).below hb c⟩
theorem CSt.stored (H:CSt S K h t e wW L (w,γ)) (h10:L 10=false) (h9:L 9=true) (h5:L 5=true) {g:Nat} (hg:γ.1=some g) {z:Zs} (hz:γ.2=some z):
  CSt S K h t e wW (fun k=>k==10||L k) (nV w g (.int .i64 z.h.k) (.string (ay z.h.x)) (.string (ay z.h.y)) (.pointer z.pe) (.pointer z.pf) (.pointer z.pc) (.slice z.Aa z.na z.ca) (.slice z.At z.nt z.ct) (.slice z.Al z.nl z.cl) (.int .i64 z.h.at_),γ):=by
 have hW:=bU w g (.int .i64 z.h.k) (.string (ay z.h.x)) (.string (ay z.h.y)) (.pointer z.pe) (.pointer z.pf) (.pointer z.pc) (.slice z.Aa z.na z.ca) (.slice z.At z.nt z.ct) (.slice z.Al z.nl z.cl) (.int .i64 z.h.at_);obtain⟨g',a,b,c,d⟩:=H.made h9;obtain rfl:g=g':=Option.some.inj (hg.symm.trans a);obtain⟨z',a2,b2⟩:=H.cl h5;obtain rfl:z=z':=Option.some.inj (hz.symm.trans a2);refine⟨H.bel.trans (hW.below H.bel.size fun k hk=>by simp at hk;omega),fun q=>by simp[h9]at q,fun _=>⟨g,hg,b,Nat.lt_of_lt_of_le c hW.size,fun q=>by simp at q⟩,fun _=>⟨z,hz,b2.keep fun x hx hS=>hW.block x hx (by simp;exact fun e=>hS.2 (by subst e;exact hg))⟩,fun _=>⟨g,z,hg,hz,cO (d h10) _ _ _ _ _ _ _ _ _ _⟩,fun _=>by simp[h9,h5]⟩
end
theorem aJ.drawn {w:World} {S:Nat→Prop} {e:Ex} {v:Value} (h:aJ w S e v) (n:Nat):aJ (w.drewN n) S e v:=aJ.keep (w:=w) (w':=w.drewN n) (fun _ _ _=>rfl) h
theorem bC.drawn {w:World} {S:Nat→Prop} {e:Cn} {v:Value} (h:bC w S e v) (n:Nat):bC (w.drewN n) S e v:=bC.keep (w:=w) (w':=w.drewN n) (fun _ _ _=>rfl) h
end Go.Proofs.YtpndglghpojjkaaGreat
namespace Go.Proofs
open Go.Shelf
def Tryz.keysB_ren:Go.Shelf.Ren:=⟨fun|7=>109|10=>155|n=>n,fun|23=>108|26=>9|3=>176|28=>174|0=>0|27=>173|33=>73|4=>4|n=>n,fun|n=>n⟩
theorem Tryz.keysB:Go.Proofs.SlLaysZ.n7 Tryz.prog Tryz.keysB_ren:={
 mixed:=by kernel_rfl
 f7:=⟨Tryz.f109.name,by decide,Tryz.func109.trans (congrArg some (by kernel_rfl))⟩
 f10:=⟨Tryz.f155.name,by decide,Tryz.func155.trans (congrArg some (by kernel_rfl))⟩
 t0:=Tryz.underlying0
 a0:=Tryz.isAgg0
 z0:=Tryz.sizeOf0
 v0:=Tryz.zeroValue0
 t4:=Tryz.underlying4
 a4:=Tryz.isAgg4
 z4:=Tryz.sizeOf4
 v4:=Tryz.zeroValue4
 t23:=Tryz.underlying108
 a23:=Tryz.isAgg108
 z23:=Tryz.sizeOf108
 v23:=Tryz.zeroValue108
 t26:=Tryz.underlying9
 a26:=Tryz.isAgg9
 z26:=Tryz.sizeOf9
 v26:=Tryz.zeroValue9
 t27:=Tryz.underlying173
 a27:=Tryz.isAgg173
 z27:=Tryz.sizeOf173
 v27:=Tryz.zeroValue173
 t28:=Tryz.underlying174
 a28:=Tryz.isAgg174
 z28:=Tryz.sizeOf174
 v28:=Tryz.zeroValue174
 t33:=Tryz.underlying73
 a33:=Tryz.isAgg73
 z33:=Tryz.sizeOf73
 v33:=Tryz.zeroValue73}
def Tryz.sortedB_ren:Go.Shelf.Ren:=⟨fun|6=>108|8=>154|9=>83|11=>179|13=>137|12=>136|23=>177|24=>178|14=>168|15=>169|16=>170|17=>171|18=>172|19=>173|20=>174|21=>175|22=>176|25=>193|26=>194|27=>195|28=>196|29=>197|30=>198|31=>202|n=>n,fun|26=>9|28=>174|24=>35|0=>0|3=>3|37=>203|48=>234|50=>144|4=>4|40=>228|39=>227|45=>177|5=>5|9=>9|51=>246|55=>250|57=>254|58=>255|33=>73|n=>n,fun|n=>n⟩
theorem Tryz.sortedB:Go.Proofs.SlLaysZ.n6 Tryz.prog Tryz.sortedB_ren:={
 mixed:=by kernel_rfl
 f6:=⟨Tryz.f108.name,by decide,Tryz.func108.trans (congrArg some (by kernel_rfl))⟩
 f8:=⟨Tryz.f154.name,by decide,Tryz.func154.trans (congrArg some (by kernel_rfl))⟩
 f11:=⟨Tryz.f179.name,by decide,Tryz.func179.trans (congrArg some (by kernel_rfl))⟩
 t0:=Tryz.underlying0
 a0:=Tryz.isAgg0
 z0:=Tryz.sizeOf0
 v0:=Tryz.zeroValue0
 t24:=Tryz.underlying35
 a24:=Tryz.isAgg35
 z24:=Tryz.sizeOf35
 v24:=Tryz.zeroValue35
 t26:=Tryz.underlying9
 a26:=Tryz.isAgg9
 z26:=Tryz.sizeOf9
 v26:=Tryz.zeroValue9
 t28:=Tryz.underlying174
 a28:=Tryz.isAgg174
 z28:=Tryz.sizeOf174
 v28:=Tryz.zeroValue174
 i26:=by kernel_rfl}
def Tryz.sortB_ren:Go.Shelf.Ren:=⟨fun|6=>83|8=>137|9=>136|19=>177|20=>178|21=>168|22=>169|23=>170|24=>171|25=>172|26=>173|27=>174|28=>175|29=>176|36=>193|31=>194|32=>195|37=>196|38=>197|39=>198|41=>202|n=>n,fun|27=>35|29=>9|3=>3|32=>203|26=>35|0=>0|44=>234|46=>144|4=>4|36=>228|35=>227|41=>177|5=>5|9=>9|53=>246|57=>250|63=>254|64=>255|n=>n,fun|n=>n⟩
theorem Tryz.sortB:Go.Proofs.SlLaysM.n6 Tryz.prog Tryz.sortB_ren:={
 mixed:=by kernel_rfl
 f6:=⟨Tryz.f83.name,by decide,Tryz.func83.trans (congrArg some (by kernel_rfl))⟩
 f8:=Tryz.func137.trans (congrArg some (by kernel_rfl))
 f9:=⟨Tryz.f136.name,by decide,Tryz.func136.trans (congrArg some (by kernel_rfl))⟩
 f19:=Tryz.func177.trans (congrArg some (by kernel_rfl))
 f20:=Tryz.func178.trans (congrArg some (by kernel_rfl))
 f21:=⟨Tryz.f168.name,by decide,Tryz.func168.trans (congrArg some (by kernel_rfl))⟩
 f22:=⟨Tryz.f169.name,by decide,Tryz.func169.trans (congrArg some (by kernel_rfl))⟩
 f23:=⟨Tryz.f170.name,by decide,Tryz.func170.trans (congrArg some (by kernel_rfl))⟩
 f24:=⟨Tryz.f171.name,by decide,Tryz.func171.trans (congrArg some (by kernel_rfl))⟩
 f25:=⟨Tryz.f172.name,by decide,Tryz.func172.trans (congrArg some (by kernel_rfl))⟩
 f26:=⟨Tryz.f173.name,by decide,Tryz.func173.trans (congrArg some (by kernel_rfl))⟩
 f27:=⟨Tryz.f174.name,by decide,Tryz.func174.trans (congrArg some (by kernel_rfl))⟩
 f28:=⟨Tryz.f175.name,by decide,Tryz.func175.trans (congrArg some (by kernel_rfl))⟩
 f29:=⟨Tryz.f176.name,by decide,Tryz.func176.trans (congrArg some (by kernel_rfl))⟩
 f31:=Tryz.func194.trans (congrArg some (by kernel_rfl))
 f32:=Tryz.func195.trans (congrArg some (by kernel_rfl))
 f36:=⟨Tryz.f193.name,by decide,Tryz.func193.trans (congrArg some (by kernel_rfl))⟩
 f37:=⟨Tryz.f196.name,by decide,Tryz.func196.trans (congrArg some (by kernel_rfl))⟩
 f38:=⟨Tryz.f197.name,by decide,Tryz.func197.trans (congrArg some (by kernel_rfl))⟩
 f39:=⟨Tryz.f198.name,by decide,Tryz.func198.trans (congrArg some (by kernel_rfl))⟩
 f41:=⟨Tryz.f202.name,by decide,Tryz.func202.trans (congrArg some (by kernel_rfl))⟩
 t0:=Tryz.underlying0
 a0:=Tryz.isAgg0
 z0:=Tryz.sizeOf0
 v0:=Tryz.zeroValue0
 t3:=Tryz.underlying3
 a3:=Tryz.isAgg3
 z3:=Tryz.sizeOf3
 v3:=Tryz.zeroValue3
 t4:=Tryz.underlying4
 a4:=Tryz.isAgg4
 z4:=Tryz.sizeOf4
 v4:=Tryz.zeroValue4
 t5:=Tryz.underlying5
 a5:=Tryz.isAgg5
 z5:=Tryz.sizeOf5
 v5:=Tryz.zeroValue5
 t9:=Tryz.underlying9
 a9:=Tryz.isAgg9
 z9:=Tryz.sizeOf9
 v9:=Tryz.zeroValue9
 t26:=Tryz.underlying35
 a26:=Tryz.isAgg35
 z26:=Tryz.sizeOf35
 v26:=Tryz.zeroValue35
 t27:=Tryz.underlying35
 a27:=Tryz.isAgg35
 z27:=Tryz.sizeOf35
 v27:=Tryz.zeroValue35
 t29:=Tryz.underlying9
 a29:=Tryz.isAgg9
 z29:=Tryz.sizeOf9
 v29:=Tryz.zeroValue9
 t32:=Tryz.underlying203
 a32:=Tryz.isAgg203
 z32:=Tryz.sizeOf203
 v32:=Tryz.zeroValue203
 t35:=Tryz.underlying227
 a35:=Tryz.isAgg227
 z35:=Tryz.sizeOf227
 v35:=Tryz.zeroValue227
 t36:=Tryz.underlying228
 a36:=Tryz.isAgg228
 z36:=Tryz.sizeOf228
 v36:=Tryz.zeroValue228
 t41:=Tryz.underlying177
 a41:=Tryz.isAgg177
 z41:=Tryz.sizeOf177
 v41:=Tryz.zeroValue177
 t44:=Tryz.underlying234
 a44:=Tryz.isAgg234
 z44:=Tryz.sizeOf234
 v44:=Tryz.zeroValue234
 t46:=Tryz.underlying144
 a46:=Tryz.isAgg144
 z46:=Tryz.sizeOf144
 v46:=Tryz.zeroValue144
 t53:=Tryz.underlying246
 a53:=Tryz.isAgg246
 z53:=Tryz.sizeOf246
 v53:=Tryz.zeroValue246
 t57:=Tryz.underlying250
 a57:=Tryz.isAgg250
 z57:=Tryz.sizeOf250
 v57:=Tryz.zeroValue250
 t63:=Tryz.underlying254
 a63:=Tryz.isAgg254
 z63:=Tryz.sizeOf254
 v63:=Tryz.zeroValue254
 t64:=Tryz.underlying255
 a64:=Tryz.isAgg255
 z64:=Tryz.sizeOf255
 v64:=Tryz.zeroValue255}
end Go.Proofs
namespace Go.Proofs.YtpndglghpojjkaaGreat
open Go.RowKit Go.Maps Go.Sort Go.Shelf
theorem Tryz.sortsB (m:Nat):AnyZ.SortsIn Tryz.prog Tryz.sortedB_ren Fence.wide m:=
 ⟨fun blk off cap ss W hH hblk hsz=>callsIn_wide.2 (AnyM.slices_Sort_string Tryz.sortB blk off cap ss W hH hblk hsz),
  fun p cap W=>callsIn_wide.2 (AnyM.slices_Sort_string_none Tryz.sortB p cap W)⟩
def ED (f:ByteArray→Option Value) (ss:List (List UInt8)):Prop:=ss.Pairwise (·<·)∧∀x,x∈ss↔f (ay x)≠none
theorem oL (x:List UInt8):(ay x).data.toList=x:=by simp[ay]
theorem vF.has {D:DataW Value} {f:ByteArray→Option Value} (h:vF D f) (x:List UInt8):Maps.has D (.string x)=true↔f (ay x)≠none:=by
 have:=h (ay x);unfold keyS at this;rw[oL]at this
 cases hf:f (ay x)with
 |none=>rw[hf]at this;simp only at this;rw[this];simp
 |some v=>rw[hf]at this;simp only at this;rw[this.1];simp
theorem yY {w:World} {m n:Nat} {D:DataW Value} (ho:w.ownsMap Tryz.prog 9 D8 m n D):(strKeys D).Nodup∧∀x,x∈strKeys D↔Maps.has D (.string x)=true:=by
 obtain⟨es,hD,hpw,_⟩:=ho.entries Tryz.strKeyed;obtain⟨es',hD',hko⟩:=ho.keysOf
 obtain rfl:es=es':=by rw[hD]at hD';simpa using hD'
 subst hD
 have hk:∀p∈es,∃x,p.1= .string x:=fun p hp=>by obtain⟨v,hv⟩:=hko p hp;obtain⟨x,_,hx,_⟩:=Maps.keyOf_str Tryz.underlying9 hv;exact⟨x,hx⟩
 constructor
 ·show(es.map fun p=>strOf p.1).Nodup;refine List.pairwise_map.2 (hpw.imp_of_mem fun{p q} hp' hq' hne e=>hne ?_);obtain⟨a,ha⟩:=hk p hp';obtain⟨b,hb⟩:=hk q hq';rw[ha,hb]at e⊢;exact congrArg _ e
 ·intro x;rw[has_eq,List.any_eq_true];show x∈es.map (fun p=>strOf p.1)↔_;rw[List.mem_map];constructor
  ·rintro⟨p,hp',rfl⟩;obtain⟨a,ha⟩:=hk p hp';exact⟨p,hp',by rw[ha];simp[Lit.sameKey,strOf]⟩
  ·rintro⟨p,hp',hs⟩;obtain⟨a,ha⟩:=hk p hp';rw[ha]at hs;exact⟨p,hp',by rw[ha];simpa[Lit.sameKey,strOf]using hs⟩
theorem DR {f:ByteArray→Option Value} {ss:List (List UInt8)} (hnd:ss.Nodup) (hm:∀x,x∈ss↔f (ay x)≠none):ED f (ss.mergeSort leB):=by
 have hperm:=List.mergeSort_perm ss leB;refine⟨?_,fun x=>(hperm.mem_iff).trans (hm x)⟩;have h1:(ss.mergeSort leB).Pairwise (fun a b=>leB a b=true):=List.pairwise_mergeSort (fun a b c h1 h2=>by simp only[leB,decide_eq_true_eq]at*;exact List.le_trans h1 h2) (fun a b=>by simp only[leB,Bool.or_eq_true,decide_eq_true_eq];exact List.le_total a b) ss;have h2:(ss.mergeSort leB).Nodup:=hperm.nodup_iff.2 hnd
 exact(List.pairwise_and_iff.2 ⟨h1,h2⟩).imp fun{a b} ⟨h3,h4⟩=>by
  simp only[leB,decide_eq_true_eq]at h3;rcases Decidable.em (a<b)with h5|h5
  ·exact h5
  ·exact absurd (List.le_antisymm h3 h5) h4
theorem Bj (w:World) (mb:Nat):Calls Tryz.prog 109 #[.map (some mb)] w fun e w'=>e= .returned (.func (.func 155) #[] #[.pointer (some ⟨w.heap.size,0,none⟩)])∧w'=w.alloc (.cells #[.map (some mb)] 108):=
 (callsIn_wide (n:=5)).1 (AnyZ.keys_in Tryz.keysB Fence.wide 5 trivial rfl (some mb) w)
theorem wQ (w:World) (mb N:Nat) (f:ByteArray→Option Value) (h:SMap w mb N f) (hN:N≤1000000):
  Calls Tryz.prog 108 #[.func (.func 155) #[] #[.pointer (some ⟨w.heap.size,0,none⟩)]] (w.alloc (.cells #[.map (some mb)] 108)) fun e w'=>
   (∃v ks,e= .returned v∧ED f ks∧ks.length≤N∧w'.ownsRow w.heap.size 9 1 v ks.length (ks.map encStr))∧Below w.heap.size w w':=by
 obtain⟨nn,D0,hn,hown,hs⟩:=h;have hbl:=hown.lt;have hsz:=hown.size_le
 have hmax:Maps.size D0≤maxLen:=by unfold maxLen;omega
 have hbytes:Maps.size D0*16≤140737488355328:=by omega
 have hseq:SeqGives Fence.wide 2 Tryz.prog 155 #[.pointer (some ⟨w.heap.size,0,none⟩)] encStr (fun ss=>ss.Perm (strKeys D0)) (Maps.size D0) (w.alloc (.cells #[.map (some mb)] 108)):=
  AnyZ.keys_gives (ρ:=Tryz.keysB_ren) {Tryz.keysB with} Fence.wide _ trivial rfl (by omega) w.heap.size mb nn D0 _ (by simp) (by simp) (by
   obtain⟨es,clock,hb,Ft,hs,hD⟩:=hown
   exact⟨es,clock,(Below.heap_alloc _ _ mb hbl).trans hb,Ft,hs,hD⟩)
 have cS:=AnyZ.sorted_in Tryz.sortedB Fence.wide 5 trivial trivial trivial trivial rfl (by omega) (Tryz.sortsB _) (enters_of Tryz.func83 (by kernel_rfl) rfl) 155 #[.pointer (some ⟨w.heap.size,0,none⟩)] trivial (enters_of Tryz.func155 (by kernel_rfl) rfl) _ _ hmax hbytes _ hseq;refine((callsIn_wide (n:=5)).1 cS).mono ?_;rintro e w' ⟨v,ss,rfl,hS,hrow,_,hb⟩;obtain⟨k1,k2⟩:=yY hown
 have hsz2:(w.alloc (.cells #[.map (some mb)] 108)).heap.size=w.heap.size+1:=by simp
 have hlen:ss.length=Maps.size D0:=by rw[hS.length_eq];obtain⟨es,hD,_⟩:=hown.keysOf;rw[hD];simp[strKeys,Maps.size]
 refine⟨⟨v,ss.mergeSort leB,rfl,DR (hS.nodup_iff.2 k1) (fun x=>(hS.mem_iff.trans (k2 x)).trans (hs.has x)),?_,?_⟩,(aA w _).trans (hb.mono (by rw[hsz2];omega))⟩
 ·rw[List.length_mergeSort];omega
 ·rw[List.length_mergeSort]
  have hB:w.heap.size≤(w.alloc (.cells #[.map (some mb)] 108)).heap.size:=by rw[hsz2];omega
  exact own_base hrow hB
def sU (s:List S):ByteArray→Option Value:=fun k=>if k.data.toList∈s then some (.agg #[])else none
theorem AL (s:List S) (x:S):(fun j=>if j=ay x then some (Value.agg #[])else sU s j)=sU (s++ [x]):=by
 funext j;unfold sU;by_cases h:j=ay x
 ·rw[if_pos h,if_pos (by rw[h,oL];simp)]
 ·rw[if_neg h]
  have h2:j.data.toList≠x:=fun e=>h (by
   subst e;cases j
   simp[ay])
  by_cases h3:j.data.toList∈s
  ·rw[if_pos h3,if_pos (List.mem_append_left _ h3)]
  ·rw[if_neg h3,if_neg (by simp[h3,h2])]
theorem yZ {s ss:List S} (h:ED (sU s) ss):ss=canon s:=by
 refine(su h.1 fun x=> ?_).symm;rw[h.2 x];unfold sU;rw[oL];by_cases hx:x∈s<;>simp[hx]
end Go.Proofs.YtpndglghpojjkaaGreat
namespace Go.Proofs.YtpndglghpojjkaaGreat
open Go.RowKit Go.Deep
structure EC (k:Nat) (first cap:Array Value) (M:List (Option Nat)) {σ:Type} (I:σ→World→Prop) (f:σ→List UInt8→σ) (bud:σ→Nat):Prop where
 ent:∀args w,(callFunc k args).run Tryz.prog w= .ok (.enter k args) w
 call:∀s x w,x.length≤4096→0<bud s→I s w→Calls Tryz.prog k (first++ #[.string (ay x)]++cap) w fun e w'=>e= .returned (.tuple #[])∧I (f s x) w'∧Writes M w w'
 keep:∀s w w',I s w→Below w.heap.size w w'→I s w'
 low:∀s w g,I s w→some g∈M→g<w.heap.size
 step:∀s x,bud s≤bud (f s x)+1
theorem b_ {σ:Type} {f:σ→List UInt8→σ} {bud:σ→Nat} (h:∀s x,bud s≤bud (f s x)+1):∀(s:σ) (e:Ex),bud s≤bud (exN f s e)+(exL e).length
 |s,.nil=>Nat.le_refl _
 |s,.mk k n x a b=>by
  have h2:=b_ h (exN f (if k=1 then f s x else s) a) b;have h1:=b_ h (if k=1 then f s x else s) a;have h0:=h s x;unfold exN exL;by_cases hk:k=1
  ·simp only[hk,if_true,List.length_append,List.length_singleton]at h1 h2⊢;omega
  ·simp only[hk,if_false,List.length_append,List.length_nil]at h1 h2⊢;omega
theorem eH {k:Nat} {first cap:Array Value} {M:List (Option Nat)} {σ:Type} {I:σ→World→Prop} {f:σ→List UInt8→σ} {bud:σ→Nat} (hk:EC k first cap M I f bud) (m:Option Nat):∀(e:Ex) (w:World) (s:σ) (v:Value),aJ w (bF M) e v→(exL e).length≤bud s→I s w→
  Calls Tryz.prog 104 #[.agg #[.map m],v,.func (.func k) first cap] w fun e' w'=>e'= .returned (.tuple #[])∧I (exN f s e) w'∧Writes M w w'
 | .nil,w,s,v,h,_,hI=>by
  obtain rfl:v= .pointer none:=h;have hb:=aA w (.cells #[.map m] 83);have hI2:=Za (hk.keep s w _ hI hb);have hB:=Za (Writes.of_below hb M);clear hb;go_enter Tryz.func104,Tryz.ntmps104;go_wp2_with fail;refine bodyPost_ret (results_none rfl _ _ _) rfl ?_;exact⟨rfl,hI2.out,hB.out⟩
 | .mk kd n x a b,w,s,v,h,hbu,hI=>by
  obtain⟨g,va,vb,rfl,hS,hx,hk7,hH,ha,hb⟩:=h;obtain⟨w1,hw1⟩:∃y,y=w.alloc (.cells #[.map m] 83):=⟨_,rfl⟩;obtain⟨gv,hgv⟩:∃y,y=w.heap.size:=⟨_,rfl⟩
  have hb1:Below w.heap.size w w1:=by rw[hw1];exact aA w _
  have hv1:Holds w1 gv 83 #[.map m]:=by rw[hw1,hgv];exact Holds.new w _ _
  have hH1:=(hH.below hb1 hH.lt);have q0:=hH1.cell 0;have q2:=hH1.cell 2;have q3:=hH1.cell 3;have q4:=hH1.cell 4;have qv:=hv1.cell 0;have ql:=hH1.lt;simp at q0 q2 q3 q4 qv;have hw1':=Za hw1.symm;clear hw1;go_enter Tryz.func104,Tryz.ntmps104;go_upto_region 1 with(fail);rw[←hgv,hw1'.out]
  have hgM:bF M gv:=fun hm=>by have:=hk.low s w gv hI hm;omega
  have hI1:=Za (hk.keep s w _ hI hb1);have hW1:=Za (Writes.of_below hb1 M);have ha1:=Za (ha.below hb1);have hb2:=Za (hb.below hb1);have hv1':=Za hv1;have hH1':=Za hH1;clear hb1 hgv hI ha hb hv1 hH hH1 hw1';by_cases hk1:kd=1
  ·subst hk1;have hq0:Hid (0<bud s):=Za (by have:=hbu;unfold exL at this;rw[if_pos rfl]at this;simp at this;omega);have hqa:Hid ((exL a).length≤bud (f s x)):=Za (by have h1:=hbu;unfold exL at h1;rw[if_pos rfl]at h1;simp at h1;have h2:=hk.step s x;omega);have hqb:Hid ((exL b).length≤bud (exN f (f s x) a)):=Za (by have h1:=hbu;unfold exL at h1;rw[if_pos rfl]at h1;simp at h1;have h2:=hk.step s x;have h3:=b_ hk.step (f s x) a;omega);clear hbu;have hx2:Hid (exN f s (Ex.mk 1 n x a b)=exN f (exN f (f s x) a) b):=Za rfl;have hent:=hk.ent;go_wp2_with fail;refine(hk.call s x w1 hx hq0.out hI1.out).mono ?_;rintro e w2 ⟨rfl,hI2,hW2'⟩;have hH2':=hW2'.holds hH1'.out hS;have hv2':=hW2'.holds hv1'.out hgM;have q3:=hH2'.cell 3;have qv:=hv2'.cell 0;have ql:=hH2'.lt;simp at q3 qv;have hv2:=Za hv2';have hH2:=Za hH2';have ha2:=Za (ha1.out.wr hW2');have hb2:=Za (hb2.out.wr hW2');have hW2:=Za (hW1.out.trans hW2');replace hI2:=Za hI2;clear hH2' hv2' hH1' hv1' ha1 hI1 hW1 hW2' q0 q2;go_wp2_with fail
   go_still_tail 6,(by kernel_rfl)
   obtain⟨w3,hw3⟩:∃y,y=w2.drew:=⟨_,rfl⟩;change wpList _ _ _ _ _ w2.drew;rw[←hw3]
   have hd3:Below w2.heap.size w2 w3:=by rw[hw3];exact(Below.refl _ w2).drew
   have hH3:=Za (hH2.out.below hd3 hH2.out.lt);have hv3:=Za (hv2.out.below hd3 hv2.out.lt);have ha3:=Za (ha2.out.below hd3);have hb3:=Za (hb2.out.below hd3);have hI3:=Za (hk.keep _ w2 w3 hI2.out hd3);have hW3:=Za (hW2.out.trans (Writes.of_below hd3 M));clear hw3 hd3 q3 qv ql hH2 hv2 ha2 hb2 hI2 hW2;go_wp2_with fail;refine(eH hk m a w3 _ va ha3.out hqa.out hI3.out).mono ?_;rintro e w4 ⟨rfl,hI4,hW4⟩;have hH4':=hW4.holds hH3.out hS;have hv4':=hW4.holds hv3.out hgM;have q4:=hH4'.cell 4;have qv:=hv4'.cell 0;have ql:=hH4'.lt;simp at q4 qv;have hv4:=Za hv4';have hH4:=Za hH4';have hb4:=Za (hb3.out.wr hW4);have hW4':=Za (hW3.out.trans hW4);replace hI4:=Za hI4;clear hH4' hv4' hH3 hv3 ha3 hb3 hI3 hW3 hW4;go_wp2_with fail
   go_still_tail 6,(by kernel_rfl)
   obtain⟨w5,hw5⟩:∃y,y=w4.drew:=⟨_,rfl⟩;change wpList _ _ _ _ _ w4.drew;rw[←hw5]
   have hd5:Below w4.heap.size w4 w5:=by rw[hw5];exact(Below.refl _ w4).drew
   have hb5:=Za (hb4.out.below hd5);have hI5:=Za (hk.keep _ w4 w5 hI4.out hd5);have hW5:=Za (hW4'.out.trans (Writes.of_below hd5 M));clear hw5 hd5 q4 qv ql hH4 hv4 hb4 hI4 hW4';go_wp2_with fail;refine(eH hk m b w5 _ vb hb5.out hqb.out hI5.out).mono ?_;rintro e w6 ⟨rfl,hI6,hW6⟩;have hI6:=Za hI6;have hW6:=Za (hW5.out.trans hW6);go_wp2_with fail;go_end0;exact⟨rfl,by rw[hx2.out];exact hI6.out,hW6.out⟩
  ·have hk2:((kd:Int)==1)=false:=by simp;omega
   have hqa:Hid ((exL a).length≤bud s):=Za (by have h1:=hbu;unfold exL at h1;rw[if_neg hk1]at h1;simp at h1;omega);have hqb:Hid ((exL b).length≤bud (exN f s a)):=Za (by have h1:=hbu;unfold exL at h1;rw[if_neg hk1]at h1;simp at h1;have h3:=b_ hk.step s a;omega);clear hbu;have hx2:Hid (exN f s (Ex.mk kd n x a b)=exN f (exN f s a) b):=Za (by conv=>lhs;unfold exN;rw[if_neg hk1]);have hH2:=hH1';have hv2:=hv1';have ha2:=ha1;have hI2:=hI1;have hW2:=hW1;clear hH1' hv1' ha1 hI1 hW1 hk1 q2;go_wp2_with fail
   go_still_tail 6,(by kernel_rfl)
   obtain⟨w3,hw3⟩:∃y,y=w1.drew:=⟨_,rfl⟩;change wpList _ _ _ _ _ w1.drew;rw[←hw3]
   have hd3:Below w1.heap.size w1 w3:=by rw[hw3];exact(Below.refl _ w1).drew
   have hH3:=Za (hH2.out.below hd3 hH2.out.lt);have hv3:=Za (hv2.out.below hd3 hv2.out.lt);have ha3:=Za (ha2.out.below hd3);have hb3:=Za (hb2.out.below hd3);have hI3:=Za (hk.keep _ w1 w3 hI2.out hd3);have hW3:=Za (hW2.out.trans (Writes.of_below hd3 M));clear hw3 hd3 q0 q3 q4 qv ql hH2 hv2 ha2 hb2 hI2 hW2;go_wp2_with fail;refine(eH hk m a w3 _ va ha3.out hqa.out hI3.out).mono ?_;rintro e w4 ⟨rfl,hI4,hW4⟩;have hH4':=hW4.holds hH3.out hS;have hv4':=hW4.holds hv3.out hgM;have q4:=hH4'.cell 4;have qv:=hv4'.cell 0;have ql:=hH4'.lt;simp at q4 qv;have hv4:=Za hv4';have hH4:=Za hH4';have hb4:=Za (hb3.out.wr hW4);have hW4':=Za (hW3.out.trans hW4);replace hI4:=Za hI4;clear hH4' hv4' hH3 hv3 ha3 hb3 hI3 hW3 hW4;go_wp2_with fail
   go_still_tail 6,(by kernel_rfl)
   obtain⟨w5,hw5⟩:∃y,y=w4.drew:=⟨_,rfl⟩;change wpList _ _ _ _ _ w4.drew;rw[←hw5]
   have hd5:Below w4.heap.size w4 w5:=by rw[hw5];exact(Below.refl _ w4).drew
   have hb5:=Za (hb4.out.below hd5);have hI5:=Za (hk.keep _ w4 w5 hI4.out hd5);have hW5:=Za (hW4'.out.trans (Writes.of_below hd5 M));clear hw5 hd5 q4 qv ql hH4 hv4 hb4 hI4 hW4';go_wp2_with fail;refine(eH hk m b w5 _ vb hb5.out hqb.out hI5.out).mono ?_;rintro e w6 ⟨rfl,hI6,hW6⟩;have hI6:=Za hI6;have hW6:=Za (hW5.out.trans hW6);go_wp2_with fail;go_end0;exact⟨rfl,by rw[hx2.out];exact hI6.out,hW6.out⟩
theorem mQ {σ:Type} {f f2:σ→List UInt8→σ} {bud:σ→Nat} (h:∀s x,bud s≤bud (f s x)+1) (hf2:∀s x,bud s≤bud (f2 s x)):∀(s:σ) (e:Cn),bud s≤bud (cnN f f2 s e)+(cnL e).length
 |s,.nil=>Nat.le_refl _
 |s,.mk k a b p q x=>by
  have h0:bud s≤bud (if k=9 then f2 s x else s):=by
   split
   ·exact hf2 s x
   ·exact Nat.le_refl _
  have h1:=b_ h (if k=9 then f2 s x else s) a;have h2:=b_ h (exN f (if k=9 then f2 s x else s) a) b;have h3:=mQ h hf2 (exN f (exN f (if k=9 then f2 s x else s) a) b) p;have h4:=mQ h hf2 (cnN f f2 (exN f (exN f (if k=9 then f2 s x else s) a) b) p) q;unfold cnN cnL;simp only[List.length_append];omega
theorem jo {k k2:Nat} {first cap first2 cap2:Array Value} {M:List (Option Nat)} {σ:Type} {I:σ→World→Prop} {f f2:σ→List UInt8→σ} {bud:σ→Nat} (hk:EC k first cap M I f bud) (hk2:Snk k2 first2 cap2 M I f2) (hf2:∀s x,bud s≤bud (f2 s x)) (m:Option Nat):∀(e:Cn) (w:World) (s:σ) (v:Value),bC w (bF M) e v→(cnL e).length≤bud s→I s w→
  Calls Tryz.prog 105 #[.agg #[.map m],v,.func (.func k) first cap,.func (.func k2) first2 cap2] w fun e' w'=>e'= .returned (.tuple #[])∧I (cnN f f2 s e) w'∧Writes M w w'
 | .nil,w,s,v,h,_,hI=>by
  obtain rfl:v= .pointer none:=h;have hb:=aA w (.cells #[.map m] 83);have hI2:=Za (hk.keep s w _ hI hb);have hB:=Za (Writes.of_below hb M);clear hb;go_enter Tryz.func105,Tryz.ntmps105;go_wp2_with fail;refine bodyPost_ret (results_none rfl _ _ _) rfl ?_;exact⟨rfl,hI2.out,hB.out⟩
 | .mk kd a b p q x,w,s,v,h,hbu,hI=>by
  obtain⟨g,va,vb,vp,vq,rfl,hS,hx,hk9,hH,ha,hb,hp,hq⟩:=h;obtain⟨w1,hw1⟩:∃y,y=w.alloc (.cells #[.map m] 83):=⟨_,rfl⟩;obtain⟨gv,hgv⟩:∃y,y=w.heap.size:=⟨_,rfl⟩
  have hb1:Below w.heap.size w w1:=by rw[hw1];exact aA w _
  have hv1:Holds w1 gv 83 #[.map m]:=by rw[hw1,hgv];exact Holds.new w _ _
  have hH1:=(hH.below hb1 hH.lt);have r0:=hH1.cell 0;have r5:=hH1.cell 5;have r1:=hH1.cell 1;have qv:=hv1.cell 0;have ql:=hH1.lt;simp at r0 r1 r5 qv;have hw1':=Za hw1.symm;clear hw1;go_enter Tryz.func105,Tryz.ntmps105;go_upto_region 1 with(fail);rw[←hgv,hw1'.out]
  have hgM:bF M gv:=fun hm=>by have:=hk.low s w gv hI hm;omega
  have tq:=Za hgv;have hI1:=Za (hk.keep s w _ hI hb1);have hW1:=Za (Writes.of_below hb1 M);have ha1:=Za (ha.below hb1);have hb2:=Za (hb.below hb1);have hp1:=Za (hp.below hb1);have hq1:=Za (hq.below hb1);have hv1':=Za hv1;have hH1':=Za hH1;clear hb1 hgv hI ha hb hp hq hv1 hH hH1 hw1';by_cases hk1:kd=9
  ·subst hk1
   have hbu2:(exL a).length+((exL b).length+((cnL p).length+(cnL q).length))≤bud (f2 s x):=by have h1:=hbu;unfold cnL at h1;simp at h1;have h2:=hf2 s x;refine Nat.le_trans ?_ h2;exact h1
   have hqa:Hid ((exL a).length≤bud (f2 s x)):=Za (by omega);have hqb:Hid ((exL b).length≤bud (exN f (f2 s x) a)):=Za (by have h1:=b_ hk.step (f2 s x) a;omega);have hqp:Hid ((cnL p).length≤bud (exN f (exN f (f2 s x) a) b)):=Za (by have h1:=b_ hk.step (f2 s x) a;have h2:=b_ hk.step (exN f (f2 s x) a) b;omega);have hqq:Hid ((cnL q).length≤bud (cnN f f2 (exN f (exN f (f2 s x) a) b) p)):=Za (by have h1:=b_ hk.step (f2 s x) a;have h2:=b_ hk.step (exN f (f2 s x) a) b;have h3:=mQ hk.step hf2 (exN f (exN f (f2 s x) a) b) p;omega);clear hbu2 hbu;have hx2:Hid (cnN f f2 s (Cn.mk 9 a b p q x)=cnN f f2 (cnN f f2 (exN f (exN f (f2 s x) a) b) p) q):=Za rfl;have hent:=hk2.ent;go_wp2_with fail;refine(hk2.call s x w1 hx hI1.out).mono ?_;rintro e w2 ⟨rfl,hI2,hW2'⟩;have hH2':=hW2'.holds hH1'.out hS;have hv2':=hW2'.holds hv1'.out hgM;clear r0 r1 r5 qv ql;have r1:=hH2'.cell 1;have qv:=hv2'.cell 0;have ql:=hH2'.lt;simp at r1 qv;have hv2:=Za hv2';have hH2:=Za hH2';have ha2:=Za (ha1.out.wr hW2');have hb2:=Za (hb2.out.wr hW2');have hp2:=Za (hp1.out.wr hW2')
   have hq2:=Za (hq1.out.wr hW2');have hW2:=Za (hW1.out.trans hW2');replace hI2:=Za hI2;clear hH2' hv2' hH1' hv1' ha1 hp1 hq1 hI1 hW1 hW2';go_wp2_with fail
   go_still_tail 6,(by kernel_rfl)
   obtain⟨x2,hx20⟩:∃y,y=w2.drew:=⟨_,rfl⟩;change wpList _ _ _ _ _ w2.drew;rw[←hx20]
   have hd:Below w2.heap.size w2 x2:=by rw[hx20];exact(Below.refl _ w2).drew
   have hH3:=Za (hH2.out.below hd hH2.out.lt);have hv3:=Za (hv2.out.below hd hv2.out.lt);have ha3:=Za (ha2.out.below hd);have hb3:=Za (hb2.out.below hd);have hp3:=Za (hp2.out.below hd);have hq3:=Za (hq2.out.below hd);have hI3:=Za (hk.keep _ w2 x2 hI2.out hd);have hW3:=Za (hW2.out.trans (Writes.of_below hd M));clear hx20 hd r1 qv ql hH2 hv2 hI2 hW2 ha2 hb2 hp2 hq2;go_wp2_with fail;refine(eH hk m a x2 _ va ha3.out hqa.out hI3.out).mono ?_;rintro e y2 ⟨rfl,hI4,hW4⟩;have hH4:=hW4.holds hH3.out hS;have hv4:=hW4.holds hv3.out hgM;have r2:=hH4.cell 2;have qv:=hv4.cell 0;have ql:=hH4.lt;simp at r2 qv;have hv2:=Za hv4;have hH2:=Za hH4;have hb2:=Za (hb3.out.wr hW4);have hp2:=Za (hp3.out.wr hW4);have hq2:=Za (hq3.out.wr hW4);have hW2:=Za (hW3.out.trans hW4);have hI2:=Za hI4;clear hI4 hW4 hH4 hv4 hI3 hW3 hH3 hv3 ha3 hb3 hp3 hq3;go_wp2_with fail
   go_still_tail 6,(by kernel_rfl)
   obtain⟨x3,hx30⟩:∃y,y=y2.drew:=⟨_,rfl⟩;change wpList _ _ _ _ _ y2.drew;rw[←hx30]
   have hd:Below y2.heap.size y2 x3:=by rw[hx30];exact(Below.refl _ y2).drew
   have hH3:=Za (hH2.out.below hd hH2.out.lt);have hv3:=Za (hv2.out.below hd hv2.out.lt);have hb3:=Za (hb2.out.below hd);have hp3:=Za (hp2.out.below hd);have hq3:=Za (hq2.out.below hd);have hI3:=Za (hk.keep _ y2 x3 hI2.out hd);have hW3:=Za (hW2.out.trans (Writes.of_below hd M));clear hx30 hd r2 qv ql hH2 hv2 hI2 hW2 hb2 hp2 hq2;go_wp2_with fail;refine(eH hk m b x3 _ vb hb3.out hqb.out hI3.out).mono ?_;rintro e y3 ⟨rfl,hI4,hW4⟩;have hH4:=hW4.holds hH3.out hS;have hv4:=hW4.holds hv3.out hgM;have r3:=hH4.cell 3;have qv:=hv4.cell 0;have ql:=hH4.lt;simp at r3 qv;have hv2:=Za hv4;have hH2:=Za hH4;have hp2:=Za (hp3.out.wr hW4);have hq2:=Za (hq3.out.wr hW4);have hW2:=Za (hW3.out.trans hW4);have hI2:=Za hI4;clear hI4 hW4 hH4 hv4 hI3 hW3 hH3 hv3 hb3 hp3 hq3;go_wp2_with fail
   go_still_tail 7,(by kernel_rfl)
   obtain⟨x4,hx40⟩:∃y,y=y3.drew:=⟨_,rfl⟩;change wpList _ _ _ _ _ y3.drew;rw[←hx40]
   have hd:Below y3.heap.size y3 x4:=by rw[hx40];exact(Below.refl _ y3).drew
   have hH3:=Za (hH2.out.below hd hH2.out.lt);have hv3:=Za (hv2.out.below hd hv2.out.lt);have hp3:=Za (hp2.out.below hd);have hq3:=Za (hq2.out.below hd);have hI3:=Za (hk.keep _ y3 x4 hI2.out hd);have hW3:=Za (hW2.out.trans (Writes.of_below hd M));clear hx40 hd r3 qv ql hH2 hv2 hI2 hW2 hp2 hq2;go_wp2_with fail;refine(jo hk hk2 hf2 m p x4 _ vp hp3.out hqp.out hI3.out).mono ?_;rintro e y4 ⟨rfl,hI4,hW4⟩;have hH4:=hW4.holds hH3.out hS;have hv4:=hW4.holds hv3.out hgM;have r4:=hH4.cell 4;have qv:=hv4.cell 0;have ql:=hH4.lt;simp at r4 qv;have hv2:=Za hv4;have hH2:=Za hH4;have hq2:=Za (hq3.out.wr hW4);have hW2:=Za (hW3.out.trans hW4);have hI2:=Za hI4;clear hI4 hW4 hH4 hv4 hI3 hW3 hH3 hv3 hp3 hq3;go_wp2_with fail
   go_still_tail 7,(by kernel_rfl)
   obtain⟨x5,hx50⟩:∃y,y=y4.drew:=⟨_,rfl⟩;change wpList _ _ _ _ _ y4.drew;rw[←hx50]
   have hd:Below y4.heap.size y4 x5:=by rw[hx50];exact(Below.refl _ y4).drew
   have hq3:=Za (hq2.out.below hd);have hI3:=Za (hk.keep _ y4 x5 hI2.out hd);have hW3:=Za (hW2.out.trans (Writes.of_below hd M));clear hx50 hd r4 qv ql hH2 hv2 hI2 hW2 hq2;go_wp2_with fail;refine(jo hk hk2 hf2 m q x5 _ vq hq3.out hqq.out hI3.out).mono ?_;rintro e y5 ⟨rfl,hI4,hW4⟩;have hI5:=Za hI4;have hW5:=Za (hW3.out.trans hW4);clear hI4 hW4 hI3 hW3 hq3;go_wp2_with fail;go_end0;exact⟨rfl,by rw[hx2.out];exact hI5.out,hW5.out⟩
  ·have hkn:((kd:Int)==9)=false:=by simp;omega
   have hbu2:(exL a).length+((exL b).length+((cnL p).length+(cnL q).length))≤bud (s):=by have h1:=hbu;unfold cnL at h1;simp at h1;exact h1
   have hqa:Hid ((exL a).length≤bud (s)):=Za (by omega);have hqb:Hid ((exL b).length≤bud (exN f (s) a)):=Za (by have h1:=b_ hk.step (s) a;omega);have hqp:Hid ((cnL p).length≤bud (exN f (exN f (s) a) b)):=Za (by have h1:=b_ hk.step (s) a;have h2:=b_ hk.step (exN f (s) a) b;omega);have hqq:Hid ((cnL q).length≤bud (cnN f f2 (exN f (exN f (s) a) b) p)):=Za (by have h1:=b_ hk.step (s) a;have h2:=b_ hk.step (exN f (s) a) b;have h3:=mQ hk.step hf2 (exN f (exN f (s) a) b) p;omega);clear hbu2 hbu;have hx2:Hid (cnN f f2 s (Cn.mk kd a b p q x)=cnN f f2 (cnN f f2 (exN f (exN f s a) b) p) q):=Za (by conv=>lhs;unfold cnN;rw[if_neg hk1]);have hH2:=hH1';have hv2:=hv1';have ha2:=ha1;have hp2:=hp1;have hq2:=hq1;have hI2:=hI1;have hW2:=hW1;clear hH1' hv1' ha1 hp1 hq1 hI1 hW1 hk1 r5;go_wp2_with fail
   go_still_tail 6,(by kernel_rfl)
   obtain⟨x2,hx20⟩:∃y,y=w1.drew:=⟨_,rfl⟩;change wpList _ _ _ _ _ w1.drew;rw[←hx20]
   have hd:Below w1.heap.size w1 x2:=by rw[hx20];exact(Below.refl _ w1).drew
   have hH3:=Za (hH2.out.below hd hH2.out.lt);have hv3:=Za (hv2.out.below hd hv2.out.lt);have ha3:=Za (ha2.out.below hd);have hb3:=Za (hb2.out.below hd);have hp3:=Za (hp2.out.below hd);have hq3:=Za (hq2.out.below hd);have hI3:=Za (hk.keep _ w1 x2 hI2.out hd);have hW3:=Za (hW2.out.trans (Writes.of_below hd M));clear hx20 hd r1 qv ql hH2 hv2 hI2 hW2 ha2 hb2 hp2 hq2;go_wp2_with fail;refine(eH hk m a x2 _ va ha3.out hqa.out hI3.out).mono ?_;rintro e y2 ⟨rfl,hI4,hW4⟩;have hH4:=hW4.holds hH3.out hS;have hv4:=hW4.holds hv3.out hgM;have r2:=hH4.cell 2;have qv:=hv4.cell 0;have ql:=hH4.lt;simp at r2 qv;have hv2:=Za hv4;have hH2:=Za hH4;have hb2:=Za (hb3.out.wr hW4);have hp2:=Za (hp3.out.wr hW4);have hq2:=Za (hq3.out.wr hW4);have hW2:=Za (hW3.out.trans hW4);have hI2:=Za hI4;clear hI4 hW4 hH4 hv4 hI3 hW3 hH3 hv3 ha3 hb3 hp3 hq3;go_wp2_with fail
   go_still_tail 6,(by kernel_rfl)
   obtain⟨x3,hx30⟩:∃y,y=y2.drew:=⟨_,rfl⟩;change wpList _ _ _ _ _ y2.drew;rw[←hx30]
   have hd:Below y2.heap.size y2 x3:=by rw[hx30];exact(Below.refl _ y2).drew
   have hH3:=Za (hH2.out.below hd hH2.out.lt);have hv3:=Za (hv2.out.below hd hv2.out.lt);have hb3:=Za (hb2.out.below hd);have hp3:=Za (hp2.out.below hd);have hq3:=Za (hq2.out.below hd);have hI3:=Za (hk.keep _ y2 x3 hI2.out hd);have hW3:=Za (hW2.out.trans (Writes.of_below hd M));clear hx30 hd r2 qv ql hH2 hv2 hI2 hW2 hb2 hp2 hq2;go_wp2_with fail;refine(eH hk m b x3 _ vb hb3.out hqb.out hI3.out).mono ?_;rintro e y3 ⟨rfl,hI4,hW4⟩;have hH4:=hW4.holds hH3.out hS;have hv4:=hW4.holds hv3.out hgM;have r3:=hH4.cell 3;have qv:=hv4.cell 0;have ql:=hH4.lt;simp at r3 qv;have hv2:=Za hv4;have hH2:=Za hH4;have hp2:=Za (hp3.out.wr hW4);have hq2:=Za (hq3.out.wr hW4);have hW2:=Za (hW3.out.trans hW4);have hI2:=Za hI4;clear hI4 hW4 hH4 hv4 hI3 hW3 hH3 hv3 hb3 hp3 hq3;go_wp2_with fail
   go_still_tail 7,(by kernel_rfl)
   obtain⟨x4,hx40⟩:∃y,y=y3.drew:=⟨_,rfl⟩;change wpList _ _ _ _ _ y3.drew;rw[←hx40]
   have hd:Below y3.heap.size y3 x4:=by rw[hx40];exact(Below.refl _ y3).drew
   have hH3:=Za (hH2.out.below hd hH2.out.lt);have hv3:=Za (hv2.out.below hd hv2.out.lt);have hp3:=Za (hp2.out.below hd);have hq3:=Za (hq2.out.below hd);have hI3:=Za (hk.keep _ y3 x4 hI2.out hd);have hW3:=Za (hW2.out.trans (Writes.of_below hd M));clear hx40 hd r3 qv ql hH2 hv2 hI2 hW2 hp2 hq2;go_wp2_with fail;refine(jo hk hk2 hf2 m p x4 _ vp hp3.out hqp.out hI3.out).mono ?_;rintro e y4 ⟨rfl,hI4,hW4⟩;have hH4:=hW4.holds hH3.out hS;have hv4:=hW4.holds hv3.out hgM;have r4:=hH4.cell 4;have qv:=hv4.cell 0;have ql:=hH4.lt;simp at r4 qv;have hv2:=Za hv4;have hH2:=Za hH4;have hq2:=Za (hq3.out.wr hW4);have hW2:=Za (hW3.out.trans hW4);have hI2:=Za hI4;clear hI4 hW4 hH4 hv4 hI3 hW3 hH3 hv3 hp3 hq3;go_wp2_with fail
   go_still_tail 7,(by kernel_rfl)
   obtain⟨x5,hx50⟩:∃y,y=y4.drew:=⟨_,rfl⟩;change wpList _ _ _ _ _ y4.drew;rw[←hx50]
   have hd:Below y4.heap.size y4 x5:=by rw[hx50];exact(Below.refl _ y4).drew
   have hq3:=Za (hq2.out.below hd);have hI3:=Za (hk.keep _ y4 x5 hI2.out hd);have hW3:=Za (hW2.out.trans (Writes.of_below hd M));clear hx50 hd r4 qv ql hH2 hv2 hI2 hW2 hq2;go_wp2_with fail;refine(jo hk hk2 hf2 m q x5 _ vq hq3.out hqq.out hI3.out).mono ?_;rintro e y5 ⟨rfl,hI4,hW4⟩;have hI5:=Za hI4;have hW5:=Za (hW3.out.trans hW4);clear hI4 hW4 hI3 hW3 hq3;go_wp2_with fail;go_end0;exact⟨rfl,by rw[hx2.out];exact hI5.out,hW5.out⟩
def jI (cst:Hd→Nat):Sl→Nat
 | .nil=>0
 | .cons h t e r=>cst h+(jI cst t+(jI cst e+jI cst r))
structure wC (k:Nat) (first cap:Array Value) (M:List (Option Nat)) {σ:Type} (I:σ→World→Prop) (d:σ→Hd→σ×Bool) (bud:σ→Nat) (cst:Hd→Nat):Prop where
 ent:∀args w,(callFunc k args).run Tryz.prog w= .ok (.enter k args) w
 call:∀s h w pe pf pc Aa At Al na ca nt ct nl cl,dn w (bF M) h (.pointer pe) (.pointer pf) (.pointer pc) (.slice Aa na ca)→cst h≤bud s→I s w→
  Calls Tryz.prog k (first++ #[.agg (stC h pe pf pc Aa At Al na ca nt ct nl cl)]++cap) w fun e w'=>e= .returned (.bool (d s h).2)∧I (d s h).1 w'∧Writes M w w'
 keep:∀s w w',I s w→Below w.heap.size w w'→I s w'
 low:∀s w g,I s w→some g∈M→g<w.heap.size
 step:∀s h,bud s≤bud (d s h).1+cst h
theorem nO {σ:Type} {d:σ→Hd→σ×Bool} {bud:σ→Nat} {cst:Hd→Nat} (hs:∀s h,bud s≤bud (d s h).1+cst h):∀(s:σ) (l:Sl),bud s≤bud (vis d s l).1+jI cst l
 |s,.nil=>Nat.le_refl _
 |s,.cons h t e r=>by
  have h1:=hs s h;have h2:=nO hs (d s h).1 t;have h3:=nO hs (vis d (d s h).1 t).1 e;have h4:=nO hs (vis d (vis d (d s h).1 t).1 e).1 r;unfold vis jI;split
  ·split
   ·split
    ·omega
    ·simp only;omega
   ·simp only;omega
  ·simp only;omega
theorem lq {kf:Nat} {first cap:Array Value} {M:List (Option Nat)} {σ:Type} {I:σ→World→Prop} {d:σ→Hd→σ×Bool} {bud:σ→Nat} {cst:Hd→Nat} (hk:wC kf first cap M I d bud cst) (m:Option Nat):∀(N:Nat) (l:Sl),l.dep≤N→∀(w:World) (s:σ) (v:Value),aQ w (bF M) l v→jI cst l≤bud s→I s w→
  Calls Tryz.prog 40 #[.agg #[.map m],v,.func (.func kf) first cap] w fun e' w'=>e'= .returned (.bool (vis d s l).2)∧I (vis d s l).1 w'∧Writes M w w':=by
 intro N
 induction N using Nat.strongRecOn with
 |_ N ih=>
 intro l hN w s v hv hbu hI;have hbu0:=Za hbu;clear hbu;obtain⟨A,c,us,e,hlen,hlc,hR⟩:=hv.rest;subst e;obtain⟨w1,hw1⟩:∃y,y=w.alloc (.cells #[.map m] 83):=⟨_,rfl⟩;obtain⟨gv,hgv⟩:∃y,y=w.heap.size:=⟨_,rfl⟩
 have hb1:Below w.heap.size w w1:=by rw[hw1];exact aA w _
 have hv1:Holds w1 gv 83 #[.map m]:=by rw[hw1,hgv];exact Holds.new w _ _
 have hgM:bF M gv:=fun hm=>by have:=hk.low s w gv hI hm;omega
 have hV1:Hid (Vis m M gv w w1):=Za ⟨hv1,hgM,Writes.of_below hb1 M⟩;have hI1:=Za (hk.keep s w _ hI hb1);have hR1:=Za (hR.wr (Writes.of_below hb1 M));obtain⟨R,hRe⟩:∃R,R=vis d s l:=⟨_,rfl⟩;obtain⟨n,hn⟩:∃y,y=l.len:=⟨_,rfl⟩;rw[←hRe];rw[←hn]at hlen hlc⊢;have hfold:=Za hw1.symm;have tq:=Za hgv.symm;have hih:=Za ih;have hR0:Hid (vis d s l=R):=Za hRe.symm;have hn0:Hid (0+l.len=n):=Za (by rw[hn];simp);have hN':Hid (l.dep≤N):=Za hN;have hent:=hk.ent;clear hw1 hgv hb1 hv1 hI hv hR hRe hn ih hgM hN;go_enter Tryz.func40,Tryz.ntmps40;go_upto_region 1 with(fail);rw[tq.out,hfold.out];clear hfold tq;go_wp2_with fail;go_loopw [11] (fun i wl=>∃(k:Nat) (ls:Sl) (ss:σ) (vs:List Value),k≤n∧i= .int .i64 k∧Hid (dQ wl (bF M) A k ls vs)∧Hid (vis d ss ls=R)∧Hid (I ss wl)∧Hid (Vis m M gv w wl)∧Hid (k+ls.len=n)∧Hid (ls.dep≤N)∧Hid (jI cst ls≤bud ss)) (fun i _=>n-(intOf i).toNat)
 case atStart=>exact⟨0,l,s,us,by omega,rfl,hR1,hR0,hI1,hV1,hn0,hN',hbu0⟩
 clear hR1 hR0 hI1 hV1 hn0 hN' hbu0;obtain⟨k,ls,ss,vs,hkn,rfl,hR,hRe,hI,hV,hln,hdp,hbu⟩:=hrel;rename World=>wl
 cases ls with
 |nil=>
  have hkn2:k=n:=by have:=hln.out;simp[Sl.len]at this;exact this
  have hF:Hid (R=(ss,true)):=Za (by rw[←hRe.out];rfl);subst hkn2;clear hR hRe;go_wp2_with fail;go_ret;exact⟨by rw[hF.out];rfl,by rw[hF.out];exact hI.out,hV.out.wr⟩
 |cons h t e r=>
  have hlt:k<n:=by have:=hln.out;simp only[Sl.len]at this;omega
  have F6:Hid (cst h≤bud ss∧jI cst t+(jI cst e+jI cst r)≤bud (d ss h).1):=Za (by have h1:=hbu.out;unfold jI at h1;have h2:=hk.step ss h;omega);clear hbu;obtain⟨b,off,pe,pf,pc,Aa,ca,At,ct,Al,cl,us',hA,hh,ht,he,hc,hrest⟩:=hR.out.next;subst hA;have q0:wl.cell? ⟨b,off+k*10,none⟩=some (.int .i64 h.k):=hc 0 (by decide);have q1:wl.cell? ⟨b,off+k*10+1,none⟩=some (.string (ay h.x)):=hc 1 (by decide);have q2:wl.cell? ⟨b,off+k*10+2,none⟩=some (.string (ay h.y)):=hc 2 (by decide);have q3:wl.cell? ⟨b,off+k*10+3,none⟩=some (.pointer pe):=hc 3 (by decide);have q4:wl.cell? ⟨b,off+k*10+4,none⟩=some (.pointer pf):=hc 4 (by decide);have q5:wl.cell? ⟨b,off+k*10+5,none⟩=some (.pointer pc):=hc 5 (by decide);have q6:wl.cell? ⟨b,off+k*10+6,none⟩=some (.slice Aa h.args.length ca):=hc 6 (by decide);have q7:wl.cell? ⟨b,off+k*10+7,none⟩=some (.slice At t.len ct):=hc 7 (by decide);have q8:wl.cell? ⟨b,off+k*10+8,none⟩=some (.slice Al e.len cl):=hc 8 (by decide)
  have q9:wl.cell? ⟨b,off+k*10+9,none⟩=some (.int .i64 h.at_):=hc 9 (by decide);obtain⟨qv,qvl⟩:=hV.out.facts;have hdt:Hid (t.dep<N∧e.dep<N∧r.dep≤N):=Za (by have:=hdp.out;unfold Sl.dep at this;omega);have hrl:Hid (k+1+r.len=n):=Za (by have:=hln.out;simp only[Sl.len]at this;omega);obtain⟨wn,hwn⟩:∃y,y=wl.alloc (.cells #[.int .i64 h.k,.string (ay h.x),.string (ay h.y),.pointer pe,.pointer pf,.pointer pc,.slice Aa h.args.length ca,.slice At t.len ct,.slice Al e.len cl,.int .i64 h.at_] 63):=⟨_,rfl⟩;obtain⟨gs,hgs⟩:∃y,y=wl.heap.size:=⟨_,rfl⟩
  have hbn:Below wl.heap.size wl wn:=by rw[hwn];exact aA wl _
  have hHs:Holds wn gs 63 (stC h pe pf pc Aa At Al h.args.length ca t.len ct e.len cl):=by rw[hwn,hgs];exact Holds.new wl _ _
  have DZ:bF M gs:=fun hm=>by have:=hk.low ss wl gs hI.out hm;omega
  have hWn:=Writes.of_below hbn M;have hVn:=Za (hV.out.wr_ hWn);have hIn:=Za (hk.keep ss wl _ hI.out hbn);have hhn:=Za (hh.below hbn);have htn:=Za (ht.below hbn);have hen:=Za (he.below hbn);have hrn:=Za (hrest.wr hWn);have hHn:=Za hHs;have hfo:=Za hwn.symm;have hgs':=Za hgs.symm;have xG:=Za DZ;have hF:Hid (vis d ss (.cons h t e r)=R):=hRe;clear hR hRe hI hV hln hdp hc hrest hwn hgs hbn hHs DZ hWn hh ht he;go_upto_region 4 with(fail);rw[hgs'.out,hfo.out];clear hfo hgs' q0 q1 q2 q3 q4 q5 q6 q7 q8 q9 qv qvl;have q0:wn.cell? ⟨gs,0,none⟩=some (.int .i64 h.k):=hHn.out.cell 0;have q1:wn.cell? ⟨gs,1,none⟩=some (.string (ay h.x)):=hHn.out.cell 1;have q2:wn.cell? ⟨gs,2,none⟩=some (.string (ay h.y)):=hHn.out.cell 2;have q3:wn.cell? ⟨gs,3,none⟩=some (.pointer pe):=hHn.out.cell 3;have q4:wn.cell? ⟨gs,4,none⟩=some (.pointer pf):=hHn.out.cell 4;have q5:wn.cell? ⟨gs,5,none⟩=some (.pointer pc):=hHn.out.cell 5;have q6:wn.cell? ⟨gs,6,none⟩=some (.slice Aa h.args.length ca):=hHn.out.cell 6;have q7:wn.cell? ⟨gs,7,none⟩=some (.slice At t.len ct):=hHn.out.cell 7
  have q8:wn.cell? ⟨gs,8,none⟩=some (.slice Al e.len cl):=hHn.out.cell 8;have q9:wn.cell? ⟨gs,9,none⟩=some (.int .i64 h.at_):=hHn.out.cell 9;have qs:=hHn.out.lt;obtain⟨qv,qvl⟩:=hVn.out.facts;go_wp2_with fail;refine(hk.call ss h wn pe pf pc Aa At Al h.args.length ca t.len ct e.len cl hhn.out F6.out.1 hIn.out).mono ?_;rintro e0 w3 ⟨rfl,hI3,hW3⟩;have hH3:=hW3.holds hHn.out xG.out;have hV3:=hVn.out.wr_ hW3;clear q0 q1 q2 q3 q4 q5 q6 q7 q8 q9 qs qv qvl;have q7:w3.cell? ⟨gs,7,none⟩=some (.slice At t.len ct):=hH3.cell 7;have qs:=hH3.lt;obtain⟨qv,qvl⟩:=hV3.facts;have hI3:=Za hI3;have ht3:=Za (htn.out.wr hW3);have he3:=Za (hen.out.wr hW3);have hr3:=Za (hrn.out.wr hW3);have hH3':=Za hH3;have hV3':=Za hV3;clear hH3 hV3 hW3 hHn hVn hIn hhn htn hen hrn;obtain⟨s1,hs1⟩:∃y,y=(d ss h).1:=⟨_,rfl⟩;rw[←hs1]at hI3;have hbu1:Hid (jI cst t+(jI cst e+jI cst r)≤bud s1):=Za (by rw[hs1];exact F6.out.2);clear F6
  cases hb1:(d ss h).2 with
  |false=>
   have hR1:Hid (R=(s1,false)):=Za (by rw[←hF.out];unfold vis;rw[if_neg (by rw[hb1];simp),hs1]);clear hF hs1 hb1 ht3 he3 hr3 hH3';go_wp2_with fail;go_ret;exact⟨by rw[hR1.out];rfl,by rw[hR1.out];exact hI3.out,hV3'.out.wr⟩
  |true=>
   have hF1:Hid ((if (vis d s1 t).2 then(if (vis d (vis d s1 t).1 e).2 then vis d (vis d (vis d s1 t).1 e).1 r else((vis d (vis d s1 t).1 e).1,false))else((vis d s1 t).1,false))=R):=Za (by
    rw[←hF.out]
    conv=>rhs;unfold vis
    rw[if_pos hb1,hs1])
   replace hs1:=Za hs1;clear hF hb1;go_wp2_with fail;refine(hih.out t.dep hdt.out.1 t (Nat.le_refl _) w3 s1 _ ht3.out (by have:=hbu1.out;omega) hI3.out).mono ?_;rintro e1 w4 ⟨rfl,hI4,hW4⟩;have hH4:=hW4.holds hH3'.out xG.out;have hV4:=hV3'.out.wr_ hW4;clear q7 qs qv qvl;have q8:w4.cell? ⟨gs,8,none⟩=some (.slice Al e.len cl):=hH4.cell 8;have qs:=hH4.lt;obtain⟨qv,qvl⟩:=hV4.facts;have hI4:=Za hI4;have he4:=Za (he3.out.wr hW4);have hr4:=Za (hr3.out.wr hW4);have hH4':=Za hH4;have hV4':=Za hV4;clear hH4 hV4 hW4 hH3' hV3' hI3 ht3 he3 hr3;obtain⟨s2,hs2⟩:∃y,y=(vis d s1 t).1:=⟨_,rfl⟩;rw[←hs2]at hI4;have hbu2:Hid (jI cst e+jI cst r≤bud s2):=Za (by rw[hs2];have h1:=hbu1.out;have h2:=nO hk.step s1 t;omega);clear hbu1
   cases hb2:(vis d s1 t).2 with
   |false=>
    have hR1:Hid (R=(s2,false)):=Za (by rw[←hF1.out,if_neg (by rw[hb2];simp),hs2]);clear hF1 hs2 hb2 he4 hr4 hH4';go_wp2_with fail;go_ret;exact⟨by rw[hR1.out];rfl,by rw[hR1.out];exact hI4.out,hV4'.out.wr⟩
   |true=>
    have hF2:Hid ((if (vis d s2 e).2 then vis d (vis d s2 e).1 r else((vis d s2 e).1,false))=R):=Za (by rw[←hF1.out,if_pos hb2,hs2])
    replace hs2:=Za hs2;clear hF1 hb2;go_wp2_with fail;refine(hih.out e.dep hdt.out.2.1 e (Nat.le_refl _) w4 s2 _ he4.out (by have:=hbu2.out;omega) hI4.out).mono ?_;rintro e2 w5 ⟨rfl,hI5,hW5⟩;have hV5:=Za (hV4'.out.wr_ hW5);have hI5:=Za hI5;have hr5:=Za (hr4.out.wr hW5);clear q8 qs qv qvl hW5 hH4' hV4' hI4 he4 hr4;obtain⟨s3,hs3⟩:∃y,y=(vis d s2 e).1:=⟨_,rfl⟩;rw[←hs3]at hI5;have hbu3:Hid (jI cst r≤bud s3):=Za (by rw[hs3];have h1:=hbu2.out;have h2:=nO hk.step s2 e;omega);clear hbu2
    cases hb3:(vis d s2 e).2 with
    |false=>
     have hR1:Hid (R=(s3,false)):=Za (by rw[←hF2.out,if_neg (by rw[hb3];simp),hs3]);clear hF2 hs3 hb3 hr5;go_wp2_with fail;go_ret;exact⟨by rw[hR1.out];rfl,by rw[hR1.out];exact hI5.out,hV5.out.wr⟩
    |true=>
     have hF3:Hid (vis d s3 r=R):=Za (by rw[←hF2.out,if_pos hb3,hs3]);clear hF2 hb3 hs3;go_wp2_with fail;exact⟨⟨k+1,r,s3,us',by omega,by simp,hr5,hF3,hI5,hV5,hrl,Za hdt.out.2.2,hbu3⟩,by simp[intOf];omega⟩
structure ClI (m fm:Nat) (K:List UInt8→Nat) (s:List S) (w:World):Prop where
 km:eX w m K
 fs:SMap w fm s.length (sU s)
 len:s.length≤500000
 ne:m≠fm
theorem ClI.below {m fm:Nat} {K:List UInt8→Nat} {s:List S} {w w':World} (h:ClI m fm K s w) (hb:Below w.heap.size w w'):ClI m fm K s w':=
 ⟨h.km.below hb,h.fs.loc (hb.block fm h.fs.lt),h.len,h.ne⟩
def dP (K:List UInt8→Nat) (s:List S) (x:List UInt8):List S:=if K x=0 then s++ [x]else s
def lW (s:List S):Nat:=500000-s.length
theorem En (w:World) (m fm:Nat) (K:List UInt8→Nat) (s:List S) (h:ClI m fm K s w) (x:List UInt8) (hx:x.length≤4096) (hs:s.length<500000):
  Calls Tryz.prog 107 #[.agg #[.map (some m),.map (some fm)],.string (ay x)] w fun e w'=>e= .returned (.tuple #[])∧ClI m fm K (s++ [x]) w'∧Writes [some fm] w w':=by
 obtain⟨w1,hw1⟩:∃y,y=w.alloc (.cells #[.map (some m),.map (some fm)] 110):=⟨_,rfl⟩
 have hb1:Below w.heap.size w w1:=by rw[hw1];exact aA w _
 have h1:=h.below hb1;obtain⟨w2,hrun,hm,hg,hsz⟩:=h1.fs.store Tryz.underlying108 (k:=ay x) (by simp[ay,ByteArray.size,maxLen];omega) (by have:=h.len;omega) (.agg #[]);have hW:Writes [some fm] w1 w2:=Writes.bG hg (by simp);have h2:Hid (ClI m fm K (s++ [x]) w2):=Za ⟨h1.km.writes hW (by simp;exact h.ne),by rw[AL]at hm;simpa using hm,by simp;omega,h.ne⟩;have hWW:=Za ((Writes.of_below hb1 [some fm]).trans hW);rw[hw1]at hrun;clear h1 hm hg hsz hW hb1 hw1 h;go_enter Tryz.func107,Tryz.ntmps107;go_wp2_with fail;go_end0;exact⟨rfl,h2.out,hWW.out⟩
theorem iC (w:World) (m fm:Nat) (K:List UInt8→Nat) (s:List S) (h:ClI m fm K s w) (x:List UInt8) (hx:x.length≤4096) (hs:s.length<500000):
  Calls Tryz.prog 55 #[.agg #[.map (some m),.map (some fm)],.string (ay x)] w fun e w'=>e= .returned (.tuple #[])∧ClI m fm K (dP K s x) w'∧Writes [some fm] w w':=by
 obtain⟨w1,hw1⟩:∃y,y=w.alloc (.cells #[.map (some m),.map (some fm)] 110):=⟨_,rfl⟩;obtain⟨g,hg⟩:∃y,y=w.heap.size:=⟨_,rfl⟩
 have hb1:Below w.heap.size w w1:=by rw[hw1];exact aA w _
 have hH:Holds w1 g 110 #[.map (some m),.map (some fm)]:=by rw[hw1,hg];exact Holds.new w _ _
 have h1:=Za (h.below hb1);have q0:w1.cell? ⟨g,0,none⟩=some (.map (some m)):=hH.cell 0;have ql:=hH.lt;have hfo:=Za hw1.symm;have hg':=Za hg.symm;have hW1:=Za (Writes.of_below hb1 [some fm]);have hH':=Za hH;clear hw1 hg hb1 hH h;go_enter Tryz.func55,Tryz.ntmps55;go_upto_region 1 with(fail);rw[hfo.out,hg'.out];clear hfo hg';go_wp2_with fail;refine(iO w1 m K h1.out.km x hx).mono ?_;rintro e w2 ⟨rfl,hb2⟩;have h2:=Za (h1.out.below hb2);have hH2:=hH'.out.below hb2 hH'.out.lt;clear q0 ql;have q0:w2.cell? ⟨g,0,none⟩=some (.map (some m)):=hH2.cell 0;have q1:w2.cell? ⟨g,1,none⟩=some (.map (some fm)):=hH2.cell 1;have ql:=hH2.lt;have hW2:=Za (hW1.out.trans (Writes.of_below hb2 [some fm]));clear hb2 hH2 hH' h1 hW1;by_cases hk:K x=0
 ·have e1:(K x==0)=true:=by simp[hk]
  have e2:Hid (dP K s x=s++ [x]):=Za (by unfold dP;rw[if_pos hk]);rw[e1];clear hk;go_wp2_with fail;refine(En w2 m fm K s h2.out x hx hs).mono ?_;rintro e w3 ⟨rfl,h3,hW3⟩;have h3':=Za h3;have hW3':=Za (hW2.out.trans hW3);clear h3 hW3 q0 q1 ql;go_wp2_with fail;go_end0;exact⟨rfl,by rw[e2.out];exact h3'.out,hW3'.out⟩
 ·have e1:(K x==0)=false:=by simp[hk]
  have e2:Hid (dP K s x=s):=Za (by unfold dP;rw[if_neg hk]);rw[e1];clear hk;go_wp2_with fail;go_end0;exact⟨rfl,by rw[e2.out];exact h2.out,hW2.out⟩
theorem jF (m fm:Nat) (K:List UInt8→Nat):EC 55 #[.agg #[.map (some m),.map (some fm)]] #[] [some fm] (ClI m fm K) (dP K) lW:=
 ⟨enters_of Tryz.func55 (by kernel_rfl) rfl,fun s x w hx hb h=>iC w m fm K s h x hx (by unfold lW at hb;omega),fun _ _ _ h hb=>h.below hb,fun _ _ g h hg=>by simp at hg;subst hg;exact h.fs.lt,fun s x=>by unfold lW dP;split<;>simp<;>omega⟩
theorem Du (w:World) (x:List UInt8):Calls Tryz.prog 106 #[.string (ay x)] w fun e w'=>e= .returned (.tuple #[])∧w'=w:=by
 go_enter Tryz.func106,Tryz.ntmps106;go_wp2_with fail;go_end0;exact⟨rfl,rfl⟩
theorem Dt {k:Nat} {first cap:Array Value} {M:List (Option Nat)} {σ:Type} {I:σ→World→Prop} {f:σ→List UInt8→σ} {bud:σ→Nat} (hk:EC k first cap M I f bud):Snk 106 #[] #[] M I (fun s _=>s):=
 ⟨enters_of Tryz.func106 (by kernel_rfl) rfl,fun s x w _ h=>(Du w x).mono fun _ _ ⟨h1,h2⟩=>⟨h1,by rw[h2];exact h,by rw[h2];exact Writes.refl _ _⟩,hk.keep,hk.low⟩
theorem lV (w:World) (m fm:Nat) (K:List UInt8→Nat) (s:List S) (h:ClI m fm K s w):
  Calls Tryz.prog 56 #[.agg #[.map (some m),.map (some fm)]] w fun e w'=>(∃v,e= .returned v∧w'.ownsRow w.heap.size 9 1 v (canon s).length ((canon s).map encStr))∧Below w.heap.size w w':=by
 obtain⟨w1,hw1⟩:∃y,y=w.alloc (.cells #[.map (some m),.map (some fm)] 110):=⟨_,rfl⟩
 have hb1:Below w.heap.size w w1:=by rw[hw1];exact aA w _
 have h1:=Za (h.below hb1);have hb1':=Za hb1;have hfo:=Za hw1.symm;clear hw1 hb1 h;go_enter Tryz.func56,Tryz.ntmps56;go_wp2_with fail;rw[hfo.out];refine(Bj w1 fm).mono ?_;rintro e w2 ⟨rfl,rfl⟩;have hso:=Za (wQ w1 fm s.length (sU s) h1.out.fs (by have:=h1.out.len;omega));clear hfo;go_wp2_with fail;refine hso.out.mono ?_;rintro e w3 ⟨⟨v,ks,rfl,hK,-,ho⟩,hb⟩;rw[yZ hK]at ho;have hv1:=Za (own_base ho hb1'.out.size);have hB1:=Za (hb1'.out.trans (hb.mono hb1'.out.size));clear ho hb hso hK;go_wp2_with fail;go_ret;exact⟨⟨_,rfl,hv1.out⟩,hB1.out⟩
def agN {σ:Type} (f:σ→List UInt8→σ) (s:σ) (l:List Ag):σ:=l.foldl (fun s a=>if a.ptr then s else exN f s a.e) s
def hsN {σ:Type} (f:σ→List UInt8→σ) (s:σ) (h:Hd):σ:=agN f (cnN f (fun s _=>s) (exN f (exN f s h.e) h.f) h.c) h.args
def hsC (h:Hd):Nat:=(exL h.e).length+((exL h.f).length+((cnL h.c).length+(agR h.args).length))
theorem Ac {σ:Type} {f:σ→List UInt8→σ} {bud:σ→Nat} (h:∀s x,bud s≤bud (f s x)+1):∀(l:List Ag) (s:σ),bud s≤bud (agN f s l)+(agR l).length
 | [],_=>Nat.le_refl _
 |a::l,s=>by
  have h2:=Ac h l (if a.ptr then s else exN f s a.e);have h1:=b_ h s a.e;have e1:agN f s (a::l)=agN f (if a.ptr then s else exN f s a.e) l:=rfl
  have e2:(agR (a::l)).length=(exL a.e).length+(agR l).length:=by unfold agR;rw[List.flatMap_cons,List.length_append]
  have h3:bud s≤bud (if a.ptr then s else exN f s a.e)+(exL a.e).length:=by
   split
   ·omega
   ·exact h1
  rw[e1,e2];omega
theorem zS {σ:Type} {f:σ→List UInt8→σ} {bud:σ→Nat} (h:∀s x,bud s≤bud (f s x)+1) (s:σ) (hd:Hd):bud s≤bud (hsN f s hd)+hsC hd:=by
 have h1:=b_ h s hd.e;have h2:=b_ h (exN f s hd.e) hd.f;have h3:=mQ h (f2:=fun s _=>s) (fun _ _=>Nat.le_refl _) (exN f (exN f s hd.e) hd.f) hd.c;have h4:=Ac h hd.args (cnN f (fun s _=>s) (exN f (exN f s hd.e) hd.f) hd.c);unfold hsN hsC;omega
theorem aZ.atS {w:World} {S:Nat→Prop} {l:List Ag} {A:Option Addr} {c:Nat} (h:aZ w S l (.slice A l.length c)) {k:Nat} (hk:k<l.length):
  ∃b off ve,A=some ⟨b,off,none⟩∧w.cell? ⟨b,off+k*3,none⟩=some (.bool l[k].ptr)∧w.cell? ⟨b,off+k*3+1,none⟩=some (.string (ay l[k].nm))∧w.cell? ⟨b,off+k*3+2,none⟩=some ve∧aJ w S l[k].e ve∧l[k].nm.length≤4096:=by
 obtain⟨A',c',vs,e,-,-,hr,hc⟩:=h;injection e with e1 e2 e3;subst e1;obtain⟨ve,a1,a2,a3,a4,a5⟩:=hc.at_ hk
 have hne:vs≠[]:=fun e=>by rw[e]at a1;cases a1
 obtain⟨b,off,e,-,hcell⟩:=hr hne;exact⟨b,off,ve,e,by have:=hcell _ _ a1;simpa using this,by have:=hcell _ _ a2;rw[Nat.add_assoc];exact this,by have:=hcell _ _ a3;rw[Nat.add_assoc];exact this,a4,a5⟩
structure Exs (m:Option Nat) (M:List (Option Nat)) (gv gs:Nat) (cs:Array Value) (w0 w:World):Prop where
 hv:Holds w gv 83 #[.map m]
 hs:Holds w gs 63 cs
 gm:bF M gv
 sm:bF M gs
 wr:Writes M w0 w
theorem Exs.wr_ {m:Option Nat} {M:List (Option Nat)} {gv gs:Nat} {cs:Array Value} {w0 w w':World} (h:Exs m M gv gs cs w0 w) (hW:Writes M w w'):Exs m M gv gs cs w0 w':=⟨hW.holds h.hv h.gm,hW.holds h.hs h.sm,h.gm,h.sm,h.wr.trans hW⟩
theorem Exs.facts {m:Option Nat} {M:List (Option Nat)} {gv gs:Nat} {w0 w:World} {h:Hd} {pe pf pc Aa At Al:Option Addr} {na ca nt ct nl cl:Nat} (H:Exs m M gv gs (stC h pe pf pc Aa At Al na ca nt ct nl cl) w0 w):
  w.cell? ⟨gv,0,none⟩=some (.map m)∧gv<w.heap.size∧gs<w.heap.size∧w.cell? ⟨gs,3,none⟩=some (.pointer pe)∧w.cell? ⟨gs,4,none⟩=some (.pointer pf)∧w.cell? ⟨gs,5,none⟩=some (.pointer pc)∧w.cell? ⟨gs,6,none⟩=some (.slice Aa na ca):=
 ⟨H.hv.cell 0,H.hv.lt,H.hs.lt,H.hs.cell 3,H.hs.cell 4,H.hs.cell 5,H.hs.cell 6⟩
theorem aZ.wr {w w':World} {M:List (Option Nat)} {l:List Ag} {v:Value} (h:aZ w (bF M) l v) (hW:Writes M w w'):aZ w' (bF M) l v:=h.keep fun x hx hS=>hW.block x hx hS
theorem BA {k:Nat} {first cap:Array Value} {M:List (Option Nat)} {σ:Type} {I:σ→World→Prop} {f:σ→List UInt8→σ} {bud:σ→Nat} (hk:EC k first cap M I f bud) (m:Option Nat) (w:World) (s:σ) (h:Hd) (pe pf pc Aa At Al:Option Addr) (na ca nt ct nl cl:Nat)
  (H:dn w (bF M) h (.pointer pe) (.pointer pf) (.pointer pc) (.slice Aa na ca)) (hB:hsC h≤bud s) (hI:I s w):
  Calls Tryz.prog 54 #[.agg #[.map m],.agg (stC h pe pf pc Aa At Al na ca nt ct nl cl),.func (.func k) first cap] w fun e' w'=>e'= .returned (.tuple #[])∧I (hsN f s h) w'∧Writes M w w':=by
 obtain⟨w2,hw2⟩:∃y,y=(w.alloc (.cells #[.map m] 83)).alloc (.cells (stC h pe pf pc Aa At Al na ca nt ct nl cl) 63):=⟨_,rfl⟩;obtain⟨gv,hgv⟩:∃y,y=w.heap.size:=⟨_,rfl⟩;obtain⟨gs,hgs⟩:∃y,y=w.heap.size+1:=⟨_,rfl⟩
 have hb2:Below w.heap.size w w2:=by rw[hw2];exact((Below.refl _ _).alloc (Nat.le_refl _) _).alloc (by simp) _
 have hlow:=fun g hg=>hk.low s w g hI hg
 have hX:Exs m M gv gs (stC h pe pf pc Aa At Al na ca nt ct nl cl) w w2:=by
  refine⟨?_,?_,fun hm=>by have:=hlow gv hm;omega,fun hm=>by have:=hlow gs hm;omega,Writes.of_below hb2 M⟩
  ·rw[hw2,hgv];exact(Holds.new w _ _).alloc _
  ·rw[hw2,hgs];have h1:=Holds.new (w.alloc (.cells #[.map m] 83)) 63 (stC h pe pf pc Aa At Al na ca nt ct nl cl);rw[show(w.alloc (.cells #[.map m] 83)).heap.size=w.heap.size+1 by simp]at h1;exact h1
 have hna:na=h.args.length∧na≤100000:=by obtain⟨A,c,vs,e,l1,l2,-,-⟩:=H.a;injection e with e1 e2 e3;exact⟨e2,by rw[e2];exact l1⟩
 obtain⟨hna1,hna2⟩:=hna;have hn:=Za hna1;have hE:=Za (H.e.below hb2);have hF:=Za (H.f.below hb2);have hC:=Za (H.c.keep fun x hx _=>hb2.block x hx);have hA:=Za (H.a.keep fun x hx _=>hb2.block x hx);have hI2:=Za (hk.keep s w w2 hI hb2);obtain⟨sR,hsR⟩:∃y,y=hsN f s h:=⟨_,rfl⟩;have hbe:Hid ((exL h.e).length≤bud s):=Za (by unfold hsC at hB;omega);have hbf:Hid ((exL h.f).length≤bud (exN f s h.e)):=Za (by unfold hsC at hB;have h1:=b_ hk.step s h.e;omega);have hbc:Hid ((cnL h.c).length≤bud (exN f (exN f s h.e) h.f)):=Za (by unfold hsC at hB;have h1:=b_ hk.step s h.e;have h2:=b_ hk.step (exN f s h.e) h.f;omega)
 have hba:Hid ((agR h.args).length≤bud (cnN f (fun s _=>s) (exN f (exN f s h.e) h.f) h.c)):=Za (by
  unfold hsC at hB;have h1:=b_ hk.step s h.e;have h2:=b_ hk.step (exN f s h.e) h.f;have h3:=mQ hk.step (f2:=fun s _=>s) (fun _ _=>Nat.le_refl _) (exN f (exN f s h.e) h.f) h.c
  omega)
 have hR:Hid (agN f (cnN f (fun s _=>s) (exN f (exN f s h.e) h.f) h.c) h.args=sR):=Za (by rw[hsR];rfl);rw[←hsR];have hX':=Za hX;have hfo:=Za hw2.symm;have tq:=Za hgv.symm;have hgs':=Za hgs.symm;have hno:=Dt hk;unfold stC at hfo;clear hw2 hgv hgs hb2 hlow hX hna1 H hB hI hsR;unfold stC;go_enter Tryz.func54,Tryz.ntmps54;go_upto_region 1 with(fail);rw[hfo.out,hgs'.out,tq.out];clear hfo tq hgs';obtain⟨qv,qvl,qsl,q3,q4,q5,q6⟩:=hX'.out.facts;go_wp2_with fail;refine(eH hk m h.e w2 s _ hE.out hbe.out hI2.out).mono ?_;rintro e w3 ⟨rfl,hI3,hW3⟩;have hX3:=Za (hX'.out.wr_ hW3);have hF3:=Za (hF.out.wr hW3);have hC3:=Za (hC.out.wr hW3);have hA3:=Za (hA.out.wr hW3);replace hI3:=Za hI3;clear hW3 hE hF hC hA hX' hI2 hbe qv qvl qsl q3 q4 q5 q6;obtain⟨qv,qvl,qsl,q3,q4,q5,q6⟩:=hX3.out.facts;go_wp2_with fail;refine(eH hk m h.f w3 _ _ hF3.out hbf.out hI3.out).mono ?_;rintro e w4 ⟨rfl,hI4,hW4⟩;have hX4:=Za (hX3.out.wr_ hW4);have hC4:=Za (hC3.out.wr hW4);have hA4:=Za (hA3.out.wr hW4);replace hI4:=Za hI4;clear hW4 hF3 hC3 hA3 hX3 hI3 hbf qv qvl qsl q3 q4 q5 q6
 obtain⟨qv,qvl,qsl,q3,q4,q5,q6⟩:=hX4.out.facts;go_wp2_with fail;refine(jo hk hno (fun _ _=>Nat.le_refl _) m h.c w4 _ _ hC4.out hbc.out hI4.out).mono ?_;rintro e w5 ⟨rfl,hI5,hW5⟩;have hX5:=Za (hX4.out.wr_ hW5);have hA5:=Za (hA4.out.wr hW5);obtain⟨s5,hs5⟩:∃y,y=cnN f (fun s _=>s) (exN f (exN f s h.e) h.f) h.c:=⟨_,rfl⟩;rw[←hs5]at hI5 hba hR;replace hI5:=Za hI5;obtain⟨l,hl⟩:∃y,y=h.args:=⟨_,rfl⟩;rw[←hl]at hba hR hA5 hn;clear hs5 hl hW5 hC4 hA4 hX4 hI4 hbc qv qvl qsl q3 q4 q5 q6;obtain⟨qv,qvl,qsl,q3,q4,q5,q6⟩:=hX5.out.facts;have hstart:Hid (agN f s5 (l.drop 0)=sR∧(agR (l.drop 0)).length≤bud s5):=Za ⟨by rw[List.drop_zero];exact hR.out,by rw[List.drop_zero];exact hba.out⟩;clear hR hba;go_wp2_with fail;clear qv qvl qsl q3 q4 q5 q6;go_loopw [26] (fun i wl=>∃(j:Nat) (sj:σ),j≤na∧i= .int .i64 j∧Hid (agN f sj (l.drop j)=sR∧(agR (l.drop j)).length≤bud sj)∧Hid (I sj wl)∧Hid (Exs m M gv gs (stC h pe pf pc Aa At Al na ca nt ct nl cl) w wl)∧Hid (aZ wl (bF M) l (.slice Aa na ca))) (fun i _=>na-(intOf i).toNat)
 case atStart=>exact⟨0,s5,by omega,rfl,hstart,hI5,hX5,hA5⟩
 clear hstart hI5 hX5 hA5;obtain⟨j,sj,hj,rfl,hR,hIj,hX,hA⟩:=hrel;rename World=>wl;by_cases hlt:j<na
 ·have hjl:j<l.length:=by rw[←hn.out];exact hlt
  have hA2:=hA.out;rw[hn.out]at hA2;obtain⟨b,off,ve,e,c0,c1,c2,hx,hnm⟩:=aZ.atS hA2 hjl;subst e;obtain⟨p,rfl⟩:=hx.vp;have hd:l.drop j=l[j]::l.drop (j+1):=List.drop_eq_getElem_cons hjl;rw[hd]at hR;have hx2:=Za hx;obtain⟨a,ha⟩:∃a,a=l[j]:=⟨_,rfl⟩;rw[←ha]at c0 c1 hR hx2 hnm;clear ha hd hx hA2;obtain⟨ap,an,ae⟩:=a;simp only at c0 c1 hx2 hnm;obtain⟨wn,hwn⟩:∃y,y=wl.alloc (.cells #[.bool ap,.string (ay an),.pointer p] 168):=⟨_,rfl⟩;obtain⟨ga,hga⟩:∃y,y=wl.heap.size:=⟨_,rfl⟩
  have hbn:Below wl.heap.size wl wn:=by rw[hwn];exact aA wl _
  have hHa:Holds wn ga 168 #[.bool ap,.string (ay an),.pointer p]:=by rw[hwn,hga];exact Holds.new wl _ _
  have hWn:=Writes.of_below hbn M;have hXn:=Za (hX.out.wr_ hWn);have hAn:=Za (hA.out.wr hWn);have hxn:=Za (hx2.out.below hbn);have hIn:=Za (hk.keep sj wl wn hIj.out hbn);have hfo:=Za hwn.symm;have xJ:=Za hga.symm;clear hwn hbn hga hX hx2 hA hIj hWn;go_upto_region 7 with(fail);rw[xJ.out,hfo.out];clear hfo xJ c0 c1 c2;have q0:wn.cell? ⟨ga,0,none⟩=some (.bool ap):=hHa.cell 0;have q2:wn.cell? ⟨ga,2,none⟩=some (.pointer p):=hHa.cell 2;have ql:=hHa.lt;obtain⟨qv,qvl,qsl,q3,q4,q5,q6⟩:=hXn.out.facts;have tH:=Za hHa;clear hHa qsl q3 q4 q5 q6
  cases ap with
  |true=>
   have hR2:Hid (agN f sj (l.drop (j+1))=sR∧(agR (l.drop (j+1))).length≤bud sj):=Za (by
    obtain⟨h1,h2⟩:=hR.out;refine⟨h1,?_⟩;unfold agR at h2⊢;rw[List.flatMap_cons,List.length_append]at h2
    omega)
   clear hR;go_wp2_with fail;exact⟨⟨j+1,sj,by omega,by simp,hR2,hIn,hXn,hAn⟩,by simp[intOf];omega⟩
  |false=>
   have hR2:Hid (agN f (exN f sj ae) (l.drop (j+1))=sR∧(agR (l.drop (j+1))).length≤bud (exN f sj ae)):=Za (by
    obtain⟨h1,h2⟩:=hR.out;refine⟨h1,?_⟩;have h3:=b_ hk.step sj ae;unfold agR at h2⊢;rw[List.flatMap_cons,List.length_append]at h2;simp only at h2
    omega)
   have hbx:Hid ((exL ae).length≤bud sj):=Za (by
    have h2:=hR.out.2;unfold agR at h2;rw[List.flatMap_cons,List.length_append]at h2;simp only at h2
    omega)
   clear hR;go_wp2_with fail;refine(eH hk m ae wn sj _ hxn.out hbx.out hIn.out).mono ?_;rintro e wm ⟨rfl,hI6,hW6⟩;have hX6:=Za (hXn.out.wr_ hW6);have hA6:=Za (hAn.out.wr hW6);replace hI6:=Za hI6;clear hW6 hXn hAn hxn hIn hbx q0 q2 ql qv qvl tH;go_wp2_with fail;exact⟨⟨j+1,_,by omega,by simp,hR2,hI6,hX6,hA6⟩,by simp[intOf];omega⟩
 ·obtain rfl:j=na:=by omega
  have hF:Hid (sj=sR):=Za (by have h1:=hR.out.1;rw[List.drop_of_length_le (by rw[←hn.out];exact Nat.le_refl _)]at h1;exact h1);clear hR hA;go_wp2_with fail;go_end0;exact⟨rfl,by rw[←hF.out];exact hIj.out,hX.out.wr⟩
end Go.Proofs.YtpndglghpojjkaaGreat
