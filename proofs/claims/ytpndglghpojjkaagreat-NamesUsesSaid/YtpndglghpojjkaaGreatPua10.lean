/-
  6 texts of the proof, in one file: no condition.
-/
import Derived.RegionTactic
import Derived.ChangeAlike
import Derived.BigRegion
import Derived.Test.YtpndglghpojjkaaGreatPua9
set_option maxRecDepth 1000000
set_option maxHeartbeats 8000000
namespace Go.Proofs.YtpndglghpojjkaaGreat
open Go.RowKit Go.Deep
def h_:List UInt8:= [103,108,111,98,97,108,115]
def fQ (l:List Vr):List S:=l.map Vr.nm
def mG (f:Fnc):Option Nat→Fnc×Int×Nat
 |some a=>(Fnc.none,a,61)
 |none=>(⟨f.nm,f.ps,f.ls,dI (cZ (f.ps++f.ls)) f.body⟩,0,0)
def jv (f:Fnc):Fnc×Int×Nat:=if kC (fQ (f.ps++f.ls))then(Fnc.none,-1,60)else mG f (dF (cZ (f.ps++f.ls)) f.body)
def bK (f:Fnc) (unit:S):Fnc×Int×Nat:=if f.nm≠unit∨unit=h_ then(Fnc.none,-1,62)else jv f
def dO (r:Fnc×Int×Nat) (w:World) (e:Ending) (w':World):Prop:=
 ∃vp vl vb,e= .returned (.tuple #[.agg #[.string (ay r.1.nm),vp,vl,vb],.int .i64 r.2.1,.int .i64 r.2.2])∧eP w' Evr r.1 vp vl vb∧Below w.heap.size w w'
theorem qL {a b:List UInt8} (h:a≠b):((ay a).toList==(ay b).toList)=false:=by
 rw[aH,aH];simpa using h
theorem dO.no (w w':World) (at_:Int) (k:Nat) (hb:Below w.heap.size w w'):dO (Fnc.none,at_,k) w (.returned (.tuple #[.agg #[.string ⟨#[]⟩,.slice none 0 0,.slice none 0 0,.slice none 0 0],.int .i64 at_,.int .i64 k])) w':=
 ⟨_,_,_,rfl,eP.none_ w' Evr,hb⟩
theorem vM (w:World) (f:Fnc) (unit:S) (h:f.nm≠unit∨unit=h_) (A1 A2 A3:Option Addr) (n1 n2 n3 c1 c2 c3:Nat):
  Calls Tryz.prog 10 #[.agg (fnC f.nm A1 A2 A3 n1 c1 n2 c2 n3 c3),.string (ay unit)] w (dO (Fnc.none,-1,62) w):=by
 have hb:=((Below.refl w.heap.size w).alloc (Nat.le_refl _) (.cells (fnC f.nm A1 A2 A3 n1 c1 n2 c2 n3 c3) 26)).alloc (by simp) (.cells #[.string ⟨#[]⟩,.slice none 0 0,.slice none 0 0,.slice none 0 0] 26);have hn:=(Holds.new (w.alloc (.cells (fnC f.nm A1 A2 A3 n1 c1 n2 c2 n3 c3) 26)) 26 #[.string ⟨#[]⟩,.slice none 0 0,.slice none 0 0,.slice none 0 0]);rw[show(w.alloc (.cells (fnC f.nm A1 A2 A3 n1 c1 n2 c2 n3 c3) 26)).heap.size=w.heap.size+1 by simp]at hn;have hb':=Za (dO.no w _ (-1) 62 hb);have hn':=Za hn;clear hb hn;unfold fnC at hb' hn'⊢;by_cases h1:f.nm=unit
 ·have h2:unit=h_:=by rcases h with h|h;exact absurd h1 h;exact h
  subst h1
  have h3:((ay f.nm).toList== [103,108,111,98,97,108,115])=true:=by rw[h2];simp[h_,aH]
  clear h2 h;go_enter Tryz.func10,Tryz.ntmps10;go_wp2_with fail;exact dM rfl rfl rfl hn'.out Tryz.underlying26 Tryz.sFunc hb'.out
 ·have h3:=qL h1;clear h1 h;go_enter Tryz.func10,Tryz.ntmps10;go_wp2_with fail;exact dM rfl rfl rfl hn'.out Tryz.underlying26 Tryz.sFunc hb'.out
def Bc (l:List Vr) (k:Nat):List Value:=(l.take k).map fun x=>encStr x.nm
theorem Ba (l:List Vr) (k:Nat) (h:k<l.length):Bc l (k+1)=Bc l k++ [.string (ay l[k].nm)]:=by
 unfold Bc;rw[List.take_succ_eq_append_getElem h,List.map_append,List.map_cons,List.map_nil];rfl
theorem Dv {l:List Vr} {n:Nat} (h:l.length=n):Bc l n=(fQ l).map encStr:=by
 subst h;unfold Bc fQ;rw[List.take_length,List.map_map];rfl
structure NmL (l:List Vr) (w3:World) (v:Value) (k:Nat) (w:World):Prop where
 own:w.ownsRow w3.heap.size 9 1 v k (Bc l k)
 bl:Below w3.heap.size w3 w
theorem nN {w:World} {S:Nat→Prop} {A:Option Addr} {l:List Vr} (h:bI w S A (l.flatMap Vr.cells)) {i:Nat} (hi:i<l.length):∃b off,A=some ⟨b,off,none⟩∧w.cell? ⟨b,off+i*2,none⟩=some (.string (ay l[i].nm))∧w.cell? ⟨b,off+i*2+1,none⟩=some (.bool l[i].ptr):=by
 have hne:l.flatMap Vr.cells≠[]:=fun e=>by have:=jO l;rw[e]at this;simp at this;omega
 obtain⟨b,off,e,-,hc⟩:=h hne;refine⟨b,off,e,hc _ _ (jB l hi 0 _ rfl),?_⟩;rw[Nat.add_assoc];exact hc _ _ (jB l hi 1 _ rfl)
structure RvW (gp gr:Nat) (cs:Array Value) (w0 w:World):Prop where
 hp:Holds w gp 26 cs
 hr:Holds w gr 26 kY
 bl:Below w0.heap.size w0 w
 p0:w0.heap.size≤gp
 r0:w0.heap.size≤gr
 pr:gp<gr
section
variable {gp gr:Nat} {cs:Array Value} {w0 w w':World} {a b c d:Value}
theorem RvW.below (h:RvW gp gr cs w0 w) (hb:Below w.heap.size w w'):RvW gp gr cs w0 w':=⟨h.hp.below hb h.hp.lt,h.hr.below hb h.hr.lt,h.bl.trans (hb.mono h.bl.size),h.p0,h.r0,h.pr⟩
theorem RvW.facts (h:RvW gp gr #[a,b,c,d] w0 w):w.cell? ⟨gp,0,none⟩=some a∧w.cell? ⟨gp,1,none⟩=some b∧w.cell? ⟨gp,2,none⟩=some c∧w.cell? ⟨gp,3,none⟩=some d∧gp<w.heap.size∧∀i,w.frozen? ⟨gp,i,none⟩=false:=
 ⟨h.hp.cell 0,h.hp.cell 1,h.hp.cell 2,h.hp.cell 3,h.hp.lt,fun i=>h.hp.frozen i⟩
theorem RvW.pU (h:RvW gp gr cs w0 w):w.cell? ⟨gr,0,none⟩=some (.string ⟨#[]⟩)∧w.cell? ⟨gr,1,none⟩=some (.slice none 0 0)∧w.cell? ⟨gr,2,none⟩=some (.slice none 0 0)∧w.cell? ⟨gr,3,none⟩=some (.slice none 0 0)∧gr<w.heap.size∧∀i,w.frozen? ⟨gr,i,none⟩=false:=
 ⟨h.hr.cell 0,h.hr.cell 1,h.hr.cell 2,h.hr.cell 3,h.hr.lt,fun i=>h.hr.frozen i⟩
theorem RvW.put (h:RvW gp gr cs w0 w) (i:Nat) (u:Value):RvW gp gr (cs.setIfInBounds i u) w0 (w.setCell ⟨gp,i,none⟩ u):=by
 have hW:Writes [some gp] w (w.setCell ⟨gp,i,none⟩ u):=Writes.store w (by simp) u;exact⟨h.hp.store i u,hW.holds h.hr (by have:=h.pr;simp;omega),h.bl.trans (hW.below h.bl.size fun k hk=>by simp at hk;subst hk;exact h.p0),h.p0,h.r0,h.pr⟩
theorem RvW.writes {x:Nat} (h:RvW gp gr cs w0 w) (hW:Writes [some x] w w') (hx:gr<x):RvW gp gr cs w0 w':=by
 have h1:=h.pr;have h2:=h.r0;exact⟨hW.holds h.hp (by simp;omega),hW.holds h.hr (by simp;omega),h.bl.trans (hW.below h.bl.size fun k hk=>by simp at hk;omega),h.p0,h.r0,h.pr⟩
end
theorem bY.new {w:World} {l:List Vr} {v:Value} {base:Nat} (h:w.ownsRow base 79 2 v l.length (l.flatMap Vr.cells)) (hl:l.length≤100000) (hn:∀x∈l,x.nm.length≤4096):∃A c,v= .slice A l.length c∧bY w (Ge base) l (.slice A l.length c):=by
 obtain⟨A,c,rfl,hr,hc⟩:=bI.own (S:=Ge base) h (fun _ hg=>bD h hg);exact⟨A,c,rfl,A,c,rfl,hl,hc,hr,hn⟩
theorem bY.wr1 {w w':World} {l:List Vr} {v:Value} {base g:Nat} (h:bY w (Ge base) l v) (hW:Writes [some g] w w') (hg:g<base):bY w' (Ge base) l v:=
 h.keep fun x hx hS=>hW.block x hx (by simp;exact fun e=>absurd hS (by subst e;exact Nat.not_le_of_lt hg))
theorem RsI.wr {m r a n x:Nat} {K:List UInt8→Nat} {w w':World} (h:RsI m K r a n w) (hW:Writes [some x] w w') (hr:x<r) (hm:x<m):RsI m K r a n w':=by
 have:=h.ra;exact⟨h.km.writes hW (by simp;omega),hW.holds h.hr (by simp;omega),hW.holds h.ha (by simp;omega),h.ra,h.ma⟩
theorem yP (w:World) (f:Fnc) (hg:f.nm≠h_) (A1 A2 A3:Option Addr) (c1 c2 c3:Nat) (hF:eP w Evr f (.slice A1 f.ps.length c1) (.slice A2 f.ls.length c2) (.slice A3 f.body.len c3)):
  Calls Tryz.prog 10 #[.agg (fnC f.nm A1 A2 A3 f.ps.length c1 f.ls.length c2 f.body.len c3),.string (ay f.nm)] w (dO (bK f f.nm) w):=by
 obtain⟨i0,hi,hz0,hz1,hz2⟩:=info_parts Tryz.infoStr;obtain⟨nm,ps,ls,body⟩:=f;simp only at hg hF⊢;obtain⟨hnm,h1,h2,hB⟩:=hF;simp only at hnm h1 h2 hB;obtain⟨R,hR⟩:∃R,R=bK ⟨nm,ps,ls,body⟩ nm:=⟨_,rfl⟩
 have hR2:jv ⟨nm,ps,ls,body⟩=R:=by
  rw[hR];unfold bK;rw[if_neg];rintro(h|h)
  ·exact h rfl
  ·exact hg h
 have hR':=Za hR2;rw[←hR]
 have hgl:((ay nm).toList== [103,108,111,98,97,108,115])=false:=by rw[aH];simpa[h_]using hg
 clear hR hR2 hg
 have hlen1:ps.length≤100000:=by obtain⟨_,_,_,a1,_⟩:=h1;exact a1
 have hlen2:ls.length≤100000:=by obtain⟨_,_,_,a1,_⟩:=h2;exact a1
 have hv1:Hid (∀x∈ps,x.nm.length≤4096):=Za (by obtain⟨_,_,_,_,_,_,a1⟩:=h1;exact a1);have hv2:Hid (∀x∈ls,x.nm.length≤4096):=Za (by obtain⟨_,_,_,_,_,_,a1⟩:=h2;exact a1);have hr1:Hid (bI w Evr A1 (ps.flatMap Vr.cells)):=Za (by obtain⟨_,_,e,_,_,a1,_⟩:=h1;injection e with e;subst e;exact a1);have hr2:Hid (bI w Evr A2 (ls.flatMap Vr.cells)):=Za (by obtain⟨_,_,e,_,_,a1,_⟩:=h2;injection e with e;subst e;exact a1);have hdec:=Za (fun(w:World) (h1:bY w Evr ps (.slice A1 ps.length c1)) (h2:bY w Evr ls (.slice A2 ls.length c2))=>oz w nm ps ls A1 A2 A3 c1 c2 body.len c3 h1 h2);have vX:=Za (fun(w:World) (h1:bY w Evr ps (.slice A1 ps.length c1)) (h2:bY w Evr ls (.slice A2 ls.length c2))=>mZ w nm ps ls A1 A2 A3 c1 c2 body.len c3 h1 h2);unfold fnC at hdec vX⊢;obtain⟨n1,hn1⟩:∃y,y=ps.length:=⟨_,rfl⟩;obtain⟨n2,hn2⟩:∃y,y=ls.length:=⟨_,rfl⟩;obtain⟨n3,hn3⟩:∃y,y=body.len:=⟨_,rfl⟩;rw[←hn1,←hn2,←hn3]at hdec vX⊢;rw[←hn1]at h1 hlen1;rw[←hn2]at h2 hlen2;rw[←hn3]at hB
 obtain⟨w2,hw2⟩:∃x,x=(w.alloc (.cells #[.string (ay nm),.slice A1 n1 c1,.slice A2 n2 c2,.slice A3 n3 c3] 26)).alloc (.cells #[.string ⟨#[]⟩,.slice none 0 0,.slice none 0 0,.slice none 0 0] 26):=⟨_,rfl⟩;obtain⟨gp,hgp⟩:∃x,x=w.heap.size:=⟨_,rfl⟩;obtain⟨gr,hgr⟩:∃x,x=w.heap.size+1:=⟨_,rfl⟩
 have hV:Hid (RvW gp gr #[.string (ay nm),.slice A1 n1 c1,.slice A2 n2 c2,.slice A3 n3 c3] w w2):=Za (by
  refine⟨?_,?_,?_,by omega,by omega,by omega⟩
  ·rw[hw2,hgp];exact(Holds.new w _ _).alloc _
  ·rw[hw2,hgr];have:=Holds.new (w.alloc (.cells #[.string (ay nm),.slice A1 n1 c1,.slice A2 n2 c2,.slice A3 n3 c3] 26)) 26 kY
   have e:(w.alloc (.cells #[.string (ay nm),.slice A1 n1 c1,.slice A2 n2 c2,.slice A3 n3 c3] 26)).heap.size=w.heap.size+1:=by simp
   rw[e]at this;exact this
  ·rw[hw2]
   exact((Below.refl _ _).alloc (Nat.le_refl _) _).alloc (by simp) _)
 have h1':=Za h1;have h2':=Za h2;have hB':=Za hB;have hn1':=Za hn1;have hn2':=Za hn2;have hn3':=Za hn3;have hfo:=Za hw2.symm;have jR:=Za hgp.symm;have zk:=Za hgr.symm;have hnm':=Za hnm;have up:Hid (∀w',Below w.heap.size w w'→bY w' Evr ps (.slice A1 n1 c1)∧bY w' Evr ls (.slice A2 n2 c2)∧aQ w' Evr body (.slice A3 n3 c3)):=Za fun w' hb=>⟨h1.keep fun x hx _=>hb.block x hx,h2.keep fun x hx _=>hb.block x hx,hB.keep fun x hx _=>hb.block x hx⟩;clear hw2 hgp hgr h1 h2 hB hn1 hn2 hn3 hnm;go_enter Tryz.func10,Tryz.ntmps10;go_wp2_with fail;rw[hfo.out,jR.out];rw[show gp+1=gr from by rw[←jR.out];exact zk.out];clear hfo;refine(hdec.out w2 (up.out w2 hV.out.bl).1 (up.out w2 hV.out.bl).2.1).mono ?_;clear hdec;rintro e w3 ⟨v,rfl,ho,hb⟩;have hV3:=Za (hV.out.below hb);obtain⟨N,hN⟩:∃y,y=n1+n2:=⟨_,rfl⟩;rw[←hN]at ho;obtain⟨vA,vc,rfl,hrow,hvc⟩:=bI.own (S:=Evr) ho (fun _ _=>trivial);have hln:Hid ((ps++ls).length=N):=Za (by rw[List.length_append,←hn1'.out,←hn2'.out,hN])
 have hN6:N≤200000:=by omega
 have hrow3:=Za hrow;have hL0:Hid (NmL (ps++ls) w3 (.slice none 0 0) 0 w3):=Za ⟨World.ownsRow_nil _ _ _ _,Below.refl _ _⟩;clear ho hb hrow hV hN zk jR;obtain⟨q0,q1,q2,q3,ql,qf⟩:=hV3.out.facts;clear q0 q1 q2 q3 ql qf;go_wp2_with fail;go_loopw [7,25] (fun v i wl=>∃k:Nat,k≤N∧i= .int .i64 k∧Hid (NmL (ps++ls) w3 v k wl)) (fun _ i _=>N-(intOf i).toNat)
 case atStart=>exact⟨0,by omega,rfl,hL0⟩
 clear hL0;obtain⟨k,hk,rfl,hL⟩:=hrel;rename World=>wl;by_cases hlt:k<N
 ·have hlt2:k<(ps++ls).length:=by rw[hln.out];exact hlt
  obtain⟨b,off,rfl,q0,q1⟩:=nN (hrow3.out.up hL.out.bl) hlt2;have htk:=Za (Ba (ps++ls) k hlt2);have ho:=Za ((hL.out.own.alloc (.cells #[.string (ay (ps++ls)[k].nm),.bool (ps++ls)[k].ptr] 79)).alloc (.cells #[.string (ay (ps++ls)[k].nm)] 9));have hbz:=hL.out.bl.size;generalize (ps++ls)[k]=x at q0 q1 htk ho;obtain⟨nx,px⟩:=x;simp only at q0 q1 htk ho;go_wp2_with (at_builtin;refine wpList_append_own _ rfl _ _ 35 rfl w3.heap.size 9 i0 (.string ⟨#[]⟩) 1 16 Tryz.underlying35 hi hz0 hz1 hz2 rfl (by decide) _ _ _ rfl ho.out ⟨wl.heap.size+1,0,none⟩ 1 1 [.string (ay nx)] rfl rfl ?c1 ?c2 ?c3 ?c4 ?c5 ?_)
  case c1=>
   have h:=cell_one_new (wl.alloc (.cells #[.string (ay nx),.bool px] 79)) (.string (ay nx)) 9;rw[show(wl.alloc (.cells #[.string (ay nx),.bool px] 79)).heap.size=wl.heap.size+1 by simp]at h;exact h
  case c2=>intro u hu;simp at hu;subst hu;rfl
  case c3=>unfold maxLen;omega
  case c4=>omega
  case c5=>simp;omega
  intro v' w4 hown' hgrow _;have hL2:Hid (NmL (ps++ls) w3 v' (k+1) w4):=Za ⟨by rw[htk.out];exact hown',((hL.out.bl.alloc hbz _).alloc (by simp;omega) _).grown hgrow (by simp;omega) (fun g hg=>(ho.out.lt g hg).1)⟩;clear hown' hgrow q0 q1 htk ho hbz hL;go_wp2_with fail;exact⟨⟨k+1,by omega,by simp,hL2⟩,by simp[intOf];omega⟩
 ·obtain rfl:k=N:=by omega
  have ho:=hL.out.own;rw[Dv hln.out]at ho;have hln2:=Za (show(fQ (ps++ls)).length=k by unfold fQ;rw[List.length_map];exact hln.out);rw[←hln2.out]at ho;have htw:=Za (tV w3 wl u7 (fQ (ps++ls)) (by rw[hln2.out];omega) ho hL.out.bl);clear ho hL hrow3;go_wp2_with fail;refine htw.out.mono ?_;rintro e w5 ⟨rfl,hb5⟩;have hV5:=Za (hV3.out.below hb5);clear htw hb5 hV3
  cases hd:kC (fQ (ps++ls))with
  |true=>
   have hRR:Hid (R=(Fnc.none,-1,60)):=Za (by rw[←hR'.out];unfold jv;rw[if_pos hd]);obtain⟨r0,r1,r2,r3,rl,rf⟩:=hV5.out.pU;replace rf:=Za rf;have f0:=rf.out 0;have f1:=rf.out 1;have f2:=rf.out 2;have f3:=rf.out 3;clear hd hR';go_wp2_with fail;refine dM rfl rfl rfl (hV5.out.hr.vP _ _ _ _) Tryz.underlying26 Tryz.sFunc ?_;rw[hRR.out];exact dO.no w _ (-1) 60 (hV5.out.bl.trans ((dU w5 gr _ _ _ _).below hV5.out.bl.size fun j hj=>by have:=hV5.out.r0;simp at hj;omega))
  |false=>
   have hRR:Hid (R=mG ⟨nm,ps,ls,body⟩ (dF (cZ (ps++ls)) body)):=Za (by rw[←hR'.out];unfold jv;rw[if_neg (by simp only;rw[hd];simp)]);clear hd hR';obtain⟨q0,q1,q2,q3,ql,qf⟩:=hV5.out.facts;clear qf;go_wp2_with fail;refine(vX.out w5 (up.out w5 hV5.out.bl).1 (up.out w5 hV5.out.bl).2.1).mono ?_;clear vX;rintro e w6 ⟨m,rfl,hm6,hK6,hb6⟩;obtain⟨K,hKK⟩:∃K,K=cZ (ps++ls):=⟨_,rfl⟩;have hRR2:Hid (R=mG ⟨nm,ps,ls,body⟩ (dF K body)):=Za (by rw[hRR.out,hKK]);have hK2:Hid (K=cZ (ps++ls)):=Za hKK;rw[←hKK]at hK6;have hV6:=hV5.out.below hb6;obtain⟨r,hr⟩:∃x,x=w6.heap.size:=⟨_,rfl⟩;obtain⟨a,ha⟩:∃x,x=w6.heap.size+1:=⟨_,rfl⟩;obtain⟨w8,hw8⟩:∃x,x=(w6.alloc (.cells #[.map (some m)] 86)).alloc (.cells #[.int .i64 0] 3):=⟨_,rfl⟩
   have hb8:Below w6.heap.size w6 w8:=by rw[hw8];exact((Below.refl _ _).alloc (Nat.le_refl _) _).alloc (by simp) _
   have hV8:=hV6.below hb8
   have hI8:RsI m K r a 0 w8:=by
    refine⟨hK6.below hb8,?_,?_,by omega,by have:=hK6.lt;omega⟩
    ·rw[hw8,hr];exact(Holds.new w6 _ _).alloc _
    ·rw[hw8,ha];have h:=Holds.new (w6.alloc (.cells #[.map (some m)] 86)) 3 #[.int .i64 0];rw[show(w6.alloc (.cells #[.map (some m)] 86)).heap.size=w6.heap.size+1 by simp]at h;exact h
   have Gu:gr<a:=by have:=hV6.hr.lt;omega
   have EZ:Hid (gp<r∧gp<m):=Za (by have h1:=hV5.out.hp.lt;have h2:=hV6.hp.lt;omega)
   have hSl8:aQ w8 (bF [some a]) body (.slice A3 n3 c3):=by
    have h1:=(hB'.out.mono (S':=bF [some a]) fun x hx _=>by
     have h2:=hV6.bl.size;unfold bF;simp
     omega)
    exact h1.keep fun x hx _=>hV8.bl.block x hx
   have hwk:=Za (yC (Dj m r a K) (some m) body.dep body (Nat.le_refl _) w8 0 _ hSl8 hI8);have hfo8:=Za hw8.symm;have hr':=Za hr.symm;have ha':=Za ha.symm;have hV8':=Za hV8;have zT:=Za Gu;obtain⟨q0,q1,q2,q3,ql,qf⟩:=hV6.facts;have qb:=hb6.size;clear qf hK6 hV6 hw8 hb8 hV8 hI8 Gu hSl8 hr ha hb6 hKK hRR hV5 hm6;go_wp2_with fail;rw[hfo8.out,ha'.out,hr'.out];refine hwk.out.mono ?_;rintro e w9 ⟨rfl,hI9,hW9⟩;have hV9:=Za (hV8'.out.writes hW9 zT.out)
   have hga1:¬a=gr:=by have:=zT.out;omega
   have hga2:¬gr=a:=by have:=zT.out;omega
   clear hwk hfo8 hV8' zT q0 q1 q2 q3 ql qb hW9 hr' ha'
   cases hf:dF K body with
   |some b=>
    rw[(jV K body 0).1 b hf]at hI9⊢;have hR9:Hid (R=(Fnc.none,(b:Int),61)):=Za (by rw[hRR2.out,hf];rfl);have qa:w9.cell? ⟨a,0,none⟩=some (.int .i64 b):=hI9.ha.cell 0;have qal:=hI9.ha.lt;obtain⟨r0,r1,r2,r3,rl,rf⟩:=hV9.out.pU;replace rf:=Za rf;have f0:=rf.out 0;have f1:=rf.out 1;have f2:=rf.out 2;have f3:=rf.out 3;clear hf hRR2 hI9;go_wp2_with fail
    go_region
    go_wp2_with fail;have hH4:=hV9.out.hr.vP (.string ⟨#[]⟩) (.slice none 0 0) (.slice none 0 0) (.slice none 0 0);have hB4:=hV9.out.bl.trans ((dU w9 gr (.string ⟨#[]⟩) (.slice none 0 0) (.slice none 0 0) (.slice none 0 0)).below hV9.out.bl.size fun j hj=>by have:=hV9.out.r0;simp at hj;omega);refine dM rfl rfl rfl (hH4.drewN 1) Tryz.underlying26 Tryz.sFunc ?_;rw[hR9.out];exact dO.no w _ b 61 (hB4.trans (Below.refl _ _).drew)
   |none=>
    have hvt:=(jV K body 0).2 hf;rw[hvt];have hR9:Hid (R=(⟨nm,ps,ls,dI K body⟩,0,0)):=Za (by rw[hRR2.out,hf,hK2.out];rfl);have hI9':=Za hI9;clear hvt hf hRR2 hI9;obtain⟨q0,q1,q2,q3,ql,qf⟩:=hV9.out.facts;replace qf:=Za qf;have qf1:=qf.out 1;have hcl:=Za (oC w9 A1 n1 c1 (ps.flatMap Vr.cells) (by rw[jO,hn1'.out]) (by omega) (hr1.out.keep fun x hx _=>hV9.out.bl.block x hx) (lu ps));go_wp2_with fail;refine hcl.out.mono ?_;rintro e wa ⟨⟨va,rfl,hoa⟩,hba⟩;rw[hn1'.out]at hoa;obtain⟨A4,c4,rfl,hva⟩:=bY.new hoa (by rw[←hn1'.out];exact hlen1) hv1.out;rw[←hn1'.out]at hva⊢;have hVa:=hV9.out.below hba;have hIa:=hI9'.out.below hba;have hgp9:=hV9.out.hp.lt;have hgr9:=Za hV9.out.hr.lt;clear hcl hoa q0 q1 q2 q3 ql qf qf1;obtain⟨wb,hwb⟩:∃x,x=wa.setCell ⟨gp,1,none⟩ (.slice A4 n1 c4):=⟨_,rfl⟩
    have hWb:Writes [some gp] wa wb:=by rw[hwb];exact Writes.store wa (by simp) _
    obtain⟨q0,q1,q2,q3,ql,qf⟩:=hVa.facts;replace qf:=Za qf;have qf1:=qf.out 1;have hVb:Hid (RvW gp gr #[.string (ay nm),.slice A4 n1 c4,.slice A2 n2 c2,.slice A3 n3 c3] w wb):=Za (by have:=hVa.put 1 (.slice A4 n1 c4);rw[←hwb]at this;exact this);have hIb:=Za (hIa.wr hWb EZ.out.1 EZ.out.2);have hvb:=Za (hva.wr1 hWb hgp9);have hfb:=Za hwb.symm;have hgp9':=Za hgp9;clear hwb hWb hva hVa hIa hba hV9 hI9' hgp9;go_wp2_with fail;rw[hfb.out];clear q0 q1 q2 q3 ql qf qf1 hfb;have hcl:=Za (oC wb A2 n2 c2 (ls.flatMap Vr.cells) (by rw[jO,hn2'.out]) (by omega) (hr2.out.keep fun x hx _=>hVb.out.bl.block x hx) (lu ls));refine hcl.out.mono ?_;rintro e wc ⟨⟨vc2,rfl,hoc⟩,hbc⟩;rw[hn2'.out]at hoc;obtain⟨A5,c5,rfl,hvc2⟩:=bY.new hoc (by rw[←hn2'.out];exact hlen2) hv2.out;rw[←hn2'.out]at hvc2⊢;have hVc:=hVb.out.below hbc;have hIc:=hIb.out.below hbc;have F5:=hVb.out.hp.lt;have hgrb:=Za hVb.out.hr.lt;have hvc1:=hvb.out.keep fun x hx _=>hbc.block x hx;obtain⟨wd,hwd⟩:∃x,x=wc.setCell ⟨gp,2,none⟩ (.slice A5 n2 c5):=⟨_,rfl⟩
    have hWd:Writes [some gp] wc wd:=by rw[hwd];exact Writes.store wc (by simp) _
    obtain⟨q0,q1,q2,q3,ql,qf⟩:=hVc.facts;replace qf:=Za qf;have qf2:=qf.out 2;have hVd:Hid (RvW gp gr #[.string (ay nm),.slice A4 n1 c4,.slice A5 n2 c5,.slice A3 n3 c3] w wd):=Za (by have:=hVc.put 2 (.slice A5 n2 c5);rw[←hwd]at this;exact this);have hId:=Za (hIc.wr hWd EZ.out.1 EZ.out.2);have hvd1:=Za (hvc1.wr1 hWd hgp9'.out);have hvd2:=Za (hvc2.wr1 hWd F5);have Gw:=Za F5;have hfd:=Za hwd.symm;have qr:wc.cell? ⟨r,0,none⟩=some (.map (some m)):=hIc.hr.cell 0;have qrl:=hIc.hr.lt;clear hcl hoc hwd hWd hvc1 hvc2 hVc hIc hbc hVb hIb hvb F5;go_wp2_with fail;rw[hfd.out];clear q0 q1 q2 q3 ql qf qf2 qr qrl hfd;have hSd:aQ wd (fun x=>x<w.heap.size) body (.slice A3 n3 c3):=(hB'.out.mono (S':=fun x=>x<w.heap.size) fun x hx _=>hx).keep fun x hx _=>hVd.out.bl.block x hx;refine(uj m K body.dep body (Nat.le_refl _) wd _ _ hId.out.km hSd).mono ?_;rintro e we ⟨v',rfl,hSe,hbe⟩;have hVe:=hVd.out.below hbe;have hgpd:=hVd.out.hp.lt;have hgrd:=hVd.out.hr.lt;have hp0:=hVd.out.p0;have hr0:=hVd.out.r0;obtain⟨A6,c6,hv6⟩:=hSe.jr;obtain⟨n6,hn6⟩:∃y,y=(dI K body).len:=⟨_,rfl⟩
    rw[←hn6]at hv6;subst hv6;have hn6':=Za hn6;obtain⟨wf,hwf⟩:∃x,x=we.setCell ⟨gp,3,none⟩ (.slice A6 n6 c6):=⟨_,rfl⟩
    have hWf:Writes [some gp] we wf:=by rw[hwf];exact Writes.store we (by simp) _
    have hSf:aQ wf (fun x=>x≠gr) (dI K body) (.slice A6 n6 c6):=by
     have h1:=hSe.keep fun x hx hS=>hWf.block x hx (by simp;rcases hS with hS|hS<;>omega)
     exact h1.mono fun x _ hS=>by rcases hS with hS|hS<;>omega
    obtain⟨q0,q1,q2,q3,ql,qf⟩:=hVe.facts;replace qf:=Za qf;have qf3:=qf.out 3
    have hVf:RvW gp gr #[.string (ay nm),.slice A4 n1 c4,.slice A5 n2 c5,.slice A6 n6 c6] w wf:=by have:=hVe.put 3 (.slice A6 n6 c6);rw[←hwf]at this;exact this
    have hv1f:=(hvd1.out.keep fun x hx _=>hbe.block x hx).wr1 hWf hgp9'.out;have hv2f:=(hvd2.out.keep fun x hx _=>hbe.block x hx).wr1 hWf Gw.out;have hZ:=dU wf gr (.string (ay nm)) (.slice A4 n1 c4) (.slice A5 n2 c5) (.slice A6 n6 c6);have hHz:=Za (hVf.hr.vP (.string (ay nm)) (.slice A4 n1 c4) (.slice A5 n2 c5) (.slice A6 n6 c6));have hBz:=hVf.bl.trans (hZ.below hVf.bl.size fun j hj=>by simp at hj;omega)
    have hend:Hid (dO R w (.returned (.tuple #[.agg #[.string (ay nm),.slice A4 n1 c4,.slice A5 n2 c5,.slice A6 n6 c6],.int .i64 0,.int .i64 0])) ((((wf.setCell ⟨gr,0,none⟩ (.string (ay nm))).setCell ⟨gr,1,none⟩ (.slice A4 n1 c4)).setCell ⟨gr,2,none⟩ (.slice A5 n2 c5)).setCell ⟨gr,3,none⟩ (.slice A6 n6 c6))):=Za (by
     rw[hR9.out];refine⟨_,_,_,rfl,⟨hnm'.out,(hv1f.wr1 hZ hgr9.out).mono fun _ _ _=>trivial,(hv2f.wr1 hZ hgrb.out).mono fun _ _ _=>trivial,?_⟩,hBz⟩
     exact(hSf.keep fun x hx hS=>hZ.block x hx (by simp;exact hS)).mono fun _ _ _=>trivial)
    have hff:=Za hwf.symm;obtain⟨p0,p1,p2,p3,pl,pf⟩:=hVf.facts;obtain⟨r0,r1,r2,r3,rl,rf⟩:=hVf.pU;replace rf:=Za rf;have f0:=rf.out 0;have f1:=rf.out 1;have f2:=rf.out 2;have f3:=rf.out 3;clear pf hwf hWf hSf hVf hv1f hv2f hZ hBz hSe hbe hVe hn6 hvd1 hvd2 hVd hId;go_upto_region 19 with(fail);rw[hff.out];clear q0 q1 q2 q3 ql qf qf3;go_wp2_with fail;exact dM rfl rfl rfl hHz.out Tryz.underlying26 Tryz.sFunc hend.out
theorem wV (w:World) (f:Fnc) (unit:S) (A1 A2 A3:Option Addr) (c1 c2 c3:Nat) (hF:eP w Evr f (.slice A1 f.ps.length c1) (.slice A2 f.ls.length c2) (.slice A3 f.body.len c3)):
  Calls Tryz.prog 10 #[.agg (fnC f.nm A1 A2 A3 f.ps.length c1 f.ls.length c2 f.body.len c3),.string (ay unit)] w (dO (bK f unit) w):=by
 by_cases h:f.nm≠unit∨unit=h_
 ·have:=vM w f unit h A1 A2 A3 f.ps.length f.ls.length f.body.len c1 c2 c3;unfold bK;rw[if_pos h];exact this
 ·have h1:f.nm=unit:=Classical.byContradiction fun e=>h (.inl e);subst h1;exact yP w f (fun e=>h (.inr e)) A1 A2 A3 c1 c2 c3 hF
section
variable {P:Program} (w:World)
theorem dY {o:Oper} {ρ:Operand→Value} {A1 B1:World→Prop} {D:World→Value→Prop} (s x:Operand) (t:TypeId)
  (ho:o.op= .call {callee:= .builtin .append,args:= #[s,x],argTypes:= #[t,t]})
  (base:Nat) (e:TypeId) (i:TypeInfo) (z:Value) (size bytes:Nat) (ht:P.underlying t=some (.slice e)) (hi:P.info? e=some i) (hz:i.zero=some z)
  (hsize:i.size=size) (hby:i.bytes=bytes) (hzs:z.cells.size=size) (hsz:0<size)
  (v:Value) (n:Nat) (xs:List Value) (hs:ρ s=v) (hown:w.ownsRow base e size v n xs)
  (A:Option Addr) (m c:Nat) (news:List Value) (hx:ρ x= .slice A m c) (hl:news.length=m*size) (hr:bI w Evr A news) (h1:∀u∈news,u.oneCell'=true)
  (h63:n+m≤maxLen) (hbytes:(n+m)*bytes≤140737488355328) (hbase:base≤w.heap.size)
  (h:∀v' w',w'.ownsRow base e size v' (n+m) (xs++news)→w.grownBy w' v.ownBlock→A1 w'∧B1 w'∧D w' v'):
  fH P (fun v w'=>A1 w'∧B1 w'∧D w' v) ((execOp ρ o).run P w):=by
 obtain⟨v',w',hrun,h2,h3,-⟩:=kZ (P:=P) w base t o.type e i z size bytes ht hi hz hsize hby hzs hsz v n xs hown A m c news hl hr h1 h63 hbytes hbase;unfold execOp;simp only[ho,resolve,invoke,builtin,Sem.run_bind,Sem.run_pure,Result.andThen_ok,List.map_toArray,List.map_cons,List.map_nil,hs,hx,hrun];exact h v' w' h2 h3
end
theorem rH:∀(l:List Vr) (k:Nat) (x:List UInt8),(∀v∈l.take k,v.nm≠x)→dX l x=dX (l.drop k) x
 |l,0,_,_=>rfl
 | [],k+1,_,_=>rfl
 |v::l,k+1,x,h=>by
  have h1:(v.nm==x)=false:=by simpa using h v (by simp)
  show dX (v::l) x=dX (l.drop k) x
  conv=>lhs;unfold dX
  rw[h1];simp only[Bool.false_eq_true,if_false];exact rH l k x fun u hu=>h u (by simp[hu])
theorem DN (w:World) (nm:List UInt8) (ps ls:List Vr) (A1 A2 A3:Option Addr) (c1 c2 n3 c3:Nat) (h1:bY w Evr ps (.slice A1 ps.length c1)) (h2:bY w Evr ls (.slice A2 ls.length c2)) (z:List UInt8):
  Calls Tryz.prog 142 #[.agg (fnC nm A1 A2 A3 ps.length c1 ls.length c2 n3 c3),.string (ay z)] w fun e w'=>e= .returned (.int .i64 (dX (ps++ls) z))∧Below w.heap.size w w':=by
 obtain⟨iA,hiA,hzA0,hzA1,hzA2⟩:=info_parts Tryz.clVar;obtain⟨A1',c1',e1,a1,a2,a3,a4⟩:=h1;injection e1 with e1 e1' e1'';subst e1 e1'';obtain⟨A2',c2',e2,b1,b2,b3,b4⟩:=h2;injection e2 with e2 e2' e2'';subst e2 e2'';have hl1:Hid ((ps.flatMap Vr.cells).length=ps.length*2):=Za (jO ps);have hl2:Hid ((ls.flatMap Vr.cells).length=ls.length*2):=Za (jO ls);obtain⟨n1,hn1⟩:∃y,y=ps.length:=⟨_,rfl⟩;obtain⟨n2,hn2⟩:∃y,y=ls.length:=⟨_,rfl⟩;rw[←hn1]at a1 hl1;rw[←hn2]at b1 hl2;rw[←hn1,←hn2];obtain⟨K,hK⟩:∃y,y=dX (ps++ls) z:=⟨_,rfl⟩;rw[←hK];have hln:Hid ((ps++ls).length=n1+n2):=Za (by rw[List.length_append,hn1,hn2]);obtain⟨w1,hw1⟩:∃y,y=w.alloc (.cells (fnC nm A1 A2 A3 n1 c1 n2 c2 n3 c3) 26):=⟨_,rfl⟩;obtain⟨gp,hgp⟩:∃y,y=w.heap.size:=⟨_,rfl⟩
 have hb1:Below w.heap.size w w1:=by rw[hw1];exact aA w _
 have hH:Holds w1 gp 26 (fnC nm A1 A2 A3 n1 c1 n2 c2 n3 c3):=by rw[hw1,hgp];exact Holds.new w _ _
 obtain⟨wW,hwW⟩:∃y,y=w1.drew:=⟨_,rfl⟩
 have hbd:Below w1.heap.size w1 wW:=by rw[hwW];exact(Below.refl _ w1).drew
 have hbW:=Za (hb1.trans (hbd.mono hb1.size));have hHW:=hH.below hbd hH.lt
 have hfc:Hid (∀w',Below wW.heap.size wW w'→w'.cell? ⟨gp,1,none⟩=some (.slice A1 n1 c1)∧w'.cell? ⟨gp,2,none⟩=some (.slice A2 n2 c2)∧gp<w'.heap.size):=Za fun w' hb=>by have h:=hHW.below hb hHW.lt;exact⟨h.cell 1,h.cell 2,h.lt⟩
 have hr1:=Za a3;have hr2:=Za b3;have hgo:Hid (Below wW.heap.size wW w1.drew):=Za (by rw[←hwW];exact Below.refl _ _);have hn12:=Za (And.intro hn1 hn2);have hK':=Za hK;have hfo:=Za hw1.symm;have jR:=Za hgp.symm;clear hw1 hgp hb1 hH hwW hbd hHW a3 b3 a4 b4 hn1 hn2 hK;unfold fnC at hfo⊢;go_enter Tryz.func142,Tryz.ntmps142;go_upto_region 1 with(fail);rw[hfo.out,jR.out];clear hfo jR;refine aC ((eqv (.pointer (some ⟨gp,1,none⟩)))::(eqv (.slice A1 n1 c1))::(fun L w v=>L 5=false→w.ownsRow wW.heap.size 79 2 v n1 (ps.flatMap Vr.cells))::(eqv (.pointer (some ⟨gp,2,none⟩)))::(eqv (.slice A2 n2 c2))::(fun L w v=>L 2=true∧L 5=true∧w.ownsRow wW.heap.size 79 2 v (n1+n2) ((ps++ls).flatMap Vr.cells))::(fun L w v=>L 2=true∧L 5=true∧w.ownsRow wW.heap.size 79 2 v (n1+n2) ((ps++ls).flatMap Vr.cells))::[])
  ((rn1 2)::(rd1 7 0)::(rd1 8 1)::(rn1 2)::(rd1 10 3)::⟨[(9,some 2),(11,some 4)],0,[]⟩::(rd1 12 5)::[])
  (no::no::no::no::no::so 6::no::so 0::so 1::so 2::so 3::so 4::so 5::[])
  (fun _ w'=>Below wW.heap.size wW w') (fun i w w'=>i≠2→i≠5→w'=w) ?mixK1 ?okK1 ?tabK1 ?frK1 ?inK1 ?keptK1 ?startK1 ?eachK1 ?finK1
 case mixK1|okK1|tabK1|frK1=>kernel_rfl
 case inK1=>rfl
 case keptK1=>exact⟨fun _ _ _ _ _ _ _ _ _ _ _ h=>h,fun _ _ _ _ _ _ _ _ _ _ _ h=>h,fun i hne hr L w w' v hLi hC hC' hG h h1=>by
    have h5:i≠5:=fun e=>by subst e;simp at h1
    have n5:(5==i)=false:=by simpa using fun e=>h5 e.symm
    have a1:L 5=false:=by simpa[n5]using h1
    rw[hG (fun e=>hne e) h5]
    exact h a1,fun _ _ _ _ _ _ _ _ _ _ _ h=>h,fun _ _ _ _ _ _ _ _ _ _ _ h=>h,fun i hne hr L w w' v hLi hC hC' hG h=>by
    have h2:i≠2:=fun e=>by subst e;rw[h.1]at hLi;cases hLi
    have h5:i≠5:=fun e=>by subst e;rw[h.2.1]at hLi;cases hLi
    rw[hG h2 h5]
    exact⟨by simp[h.1],by simp[h.2.1],h.2.2⟩,fun i hne hr L w w' v hLi hC hC' hG h=>by
    have h2:i≠2:=fun e=>by subst e;rw[h.1]at hLi;cases hLi
    have h5:i≠5:=fun e=>by subst e;rw[h.2.1]at hLi;cases hLi
    rw[hG h2 h5]
    exact⟨by simp[h.1],by simp[h.2.1],h.2.2⟩,trivial⟩
 case startK1=>exact hgo.out
 case eachK1=>
  refine⟨?_,?_,?_,?_,?_,?_,?_,trivial⟩
  iterate 2 (intro w L f hC hLi hLd hLn ⟨a,_⟩;change _=_ at a;refine au.live rfl ?_;have qq:=hfc.out w hC;obtain⟨q1,q2,ql⟩:=qq;obtain⟨ev,ec,ef⟩:=evs f;refine aj ?_ hC (fun _ _=>rfl) rfl;go_simp)
  ·intro w L f hC hLi hLd hLn ⟨d8,_⟩;change _=_ at d8;refine au.live rfl ?_;obtain⟨ev,ec,ef⟩:=evs f;refine dY w (.const (.slice none 0 0)) (.tmp 8) 23 rfl wW.heap.size 79 iA _ 2 24 Tryz.underlying23 hiA hzA0 hzA1 hzA2 rfl (by omega) (.slice none 0 0) 0 [] (by rw[ec]) (World.ownsRow_nil _ _ _ _) A1 n1 c1 (ps.flatMap Vr.cells) (by rw[ev,d8]) hl1.out (hr1.out.up (hbW.out.trans (hC.mono hbW.out.size))) (lu ps) (by unfold maxLen;omega) (by omega) hC.size ?_;intro v' w' ho hg;have hb:Below w.heap.size w w':=⟨hg.os,hg.tape,hg.output,hg.size,fun k hk=>hg.block k hk (by simp[Value.ownBlock])⟩;exact⟨hC.trans (hb.mono hC.size),fun h=>absurd rfl h,fun _=>by simpa using ho⟩
  iterate 2 (intro w L f hC hLi hLd hLn ⟨a,_⟩;change _=_ at a;refine au.live rfl ?_;have qq:=hfc.out w hC;obtain⟨q1,q2,ql⟩:=qq;obtain⟨ev,ec,ef⟩:=evs f;refine aj ?_ hC (fun _ _=>rfl) rfl;go_simp)
  ·intro w L f hC hLi hLd hLn ⟨d9,d11,_⟩;change _=_ at d11;refine au.live rfl ?_;have l2:L 2=true:=hLd 2 (by decide);have ho1:=d9 hLi;obtain⟨ev,ec,ef⟩:=evs f;refine dY w (.tmp 9) (.tmp 11) 23 rfl wW.heap.size 79 iA _ 2 24 Tryz.underlying23 hiA hzA0 hzA1 hzA2 rfl (by omega) (f 9) n1 (ps.flatMap Vr.cells) (by rw[ev]) ho1 A2 n2 c2 (ls.flatMap Vr.cells) (by rw[ev,d11]) hl2.out (hr2.out.up (hbW.out.trans (hC.mono hbW.out.size))) (lu ls) (by unfold maxLen;omega) (by omega) hC.size ?_;intro v' w' ho hg;exact⟨hC.grown hg hC.size (fun g hg=>(ho1.lt g hg).1),fun _ h=>absurd rfl h,by simp[l2],by simp,by rw[List.flatMap_append];exact ho⟩
  ·intro w L f hC hLi hLd hLn ⟨d,_⟩;refine au.live rfl ?_;exact aj (v:=f 12) rfl (hC) (fun _ _=>rfl) d
 intro x w' hC hV
 obtain⟨-,-,ho⟩:=hV 6 _ rfl rfl;clear hV;obtain⟨vv,hvv⟩:∃v,v=x 6:=⟨_,rfl⟩;rw[←hvv]at ho;simp only[framed];rw[←hvv];clear hvv;have hB:=Za (hbW.out.trans (hC.mono hbW.out.size));clear hC;obtain⟨N,hN⟩:∃y,y=n1+n2:=⟨_,rfl⟩;rw[←hN]at ho hln;obtain⟨vA,vc,rfl,hrow,hvc⟩:=bI.own (S:=Evr) ho (fun _ _=>trivial)
 have hN6:N≤200000:=by omega
 have hrow':=Za hrow;clear ho hrow hN;go_wp2_with fail
 go_loop [6] (fun i=>∃k:Nat,k≤N∧i= .int .i64 k∧Hid (∀v∈(ps++ls).take k,v.nm≠z)) (fun i=>N-(intOf i).toNat)
 case atStart=>exact⟨0,by omega,rfl,Za (by simp)⟩
 obtain⟨k,hk,rfl,hsk⟩:=hrel;have hkd:Hid (K=dX ((ps++ls).drop k) z):=Za (by rw[hK'.out];exact rH _ k z hsk.out);by_cases hlt:k<N
 ·have hkl:k<(ps++ls).length:=by rw[hln.out];exact hlt
  obtain⟨b,off,rfl,q0,q1⟩:=nN hrow'.out hkl;have hd:(ps++ls).drop k=(ps++ls)[k]::(ps++ls).drop (k+1):=List.drop_eq_getElem_cons hkl;rw[hd]at hkd;have htk:=Za (List.take_succ_eq_append_getElem hkl);clear hd;generalize (ps++ls)[k]=u at q0 q1 hkd htk;obtain⟨nx,px⟩:=u;simp only at q0 q1;by_cases hx:nx=z
  ·have hxe:((ay nx).toList==(ay z).toList)=true:=by rw[hx];simp
   have hKK:Hid (K=if px then 2 else 1):=Za (by rw[hkd.out];unfold dX;simp[hx]);clear hkd htk hx hsk;cases px
   ·go_wp2_with fail;go_ret;exact⟨by rw[hKK.out];rfl,hB.out⟩
   ·go_wp2_with fail;go_ret;exact⟨by rw[hKK.out];rfl,hB.out⟩
  ·have hxe:=qL hx
   have hsk2:Hid (∀v∈(ps++ls).take (k+1),v.nm≠z):=Za (by
    rw[htk.out];intro v hv;rcases List.mem_append.1 hv with h|h
    ·exact hsk.out v h
    ·simp at h;subst h
     exact hx)
   clear hkd htk hx hsk;go_wp2_with fail;go_round
   case rel=>exact⟨k+1,by omega,by go_num,hsk2⟩
   case measure=>simp[intOf];omega
 ·obtain rfl:k=N:=by omega
  have hKK:Hid (K=0):=Za (by rw[hkd.out,List.drop_of_length_le (by rw[hln.out];exact Nat.le_refl _)];rfl);clear hkd hsk;go_wp2_with fail;go_ret;exact⟨by rw[hKK.out];rfl,hB.out⟩
structure FnV where
 nm:List UInt8
 ps:List Vr
 ls:List Vr
 A1:Option Addr
 A2:Option Addr
 A3:Option Addr
 c1:Nat
 c2:Nat
 n3:Nat
 c3:Nat
def FnV.cells (F:FnV):Array Value:= #[.string (ay F.nm),.slice F.A1 F.ps.length F.c1,.slice F.A2 F.ls.length F.c2,.slice F.A3 F.n3 F.c3]
def FnV.ok (F:FnV) (w:World):Prop:=bY w Evr F.ps (.slice F.A1 F.ps.length F.c1)∧bY w Evr F.ls (.slice F.A2 F.ls.length F.c2)
def FnV.K (F:FnV):List UInt8→Nat:=dX (F.ps++F.ls)
theorem FnV.ok.below {F:FnV} {w w':World} (h:F.ok w) (hb:Below w.heap.size w w'):F.ok w':=⟨h.1.keep fun x hx _=>hb.block x hx,h.2.keep fun x hx _=>hb.block x hx⟩
theorem fE (F:FnV) (w:World) (h:F.ok w) (z:List UInt8):Calls Tryz.prog 142 #[.agg F.cells,.string (ay z)] w fun e w'=>e= .returned (.int .i64 (F.K z))∧Below w.heap.size w w':=
 DN w F.nm F.ps F.ls F.A1 F.A2 F.A3 F.c1 F.c2 F.n3 F.c3 h.1 h.2 z
theorem bne_cast (n:Nat):(((n:Nat):Int) !=2)=(n !=2):=by
 show(!((n:Int)==((2:Nat):Int)))= !(n==2);rw[kH]
structure RfB (F:FnV) (g:Nat) (w0 w:World):Prop where
 hg:Holds w g 26 F.cells
 ok:F.ok w
 bl:Below w0.heap.size w0 w
section
variable {F:FnV} {g:Nat} {w0 w w':World}
theorem RfB.below (h:RfB F g w0 w) (hb:Below w.heap.size w w'):RfB F g w0 w':=⟨h.hg.below hb h.hg.lt,h.ok.below hb,h.bl.trans (hb.mono h.bl.size)⟩
theorem RfB.new (h:F.ok w):RfB F w.heap.size w (w.alloc (.cells F.cells 26)):=⟨Holds.new w _ _,h.below (aA w _),aA w _⟩
theorem RfB.facts (h:RfB F g w0 w):w.cell? ⟨g,0,none⟩=some (.string (ay F.nm))∧w.cell? ⟨g,1,none⟩=some (.slice F.A1 F.ps.length F.c1)∧w.cell? ⟨g,2,none⟩=some (.slice F.A2 F.ls.length F.c2)∧w.cell? ⟨g,3,none⟩=some (.slice F.A3 F.n3 F.c3)∧g<w.heap.size:=
 ⟨h.hg.cell 0,h.hg.cell 1,h.hg.cell 2,h.hg.cell 3,h.hg.lt⟩
end
theorem eG (F:FnV):∀(e:Ex) (w:World) (v:Value),F.ok w→aJ w Evr e v→Calls Tryz.prog 144 #[.agg F.cells,v] w fun e' w'=>e'= .returned (.bool (dJ F.K e))∧Below w.heap.size w w'
 | .nil,w,v,hF,h=>by
  obtain rfl:v= .pointer none:=h;have hb:=Za (aA w (.cells F.cells 26));unfold FnV.cells at hb⊢;go_enter Tryz.func144,Tryz.ntmps144;go_wp2_with fail;go_ret;exact⟨rfl,hb.out⟩
 | .mk k n nm a b,w,v,hF,h=>by
  have hR:=RfB.new hF;obtain⟨gx,va,vb,rfl,-,hn,hk,hH,ha,hb⟩:=h;have hbn:=aA w (.cells F.cells 26);obtain⟨w1,hw1⟩:∃y,y=w.alloc (.cells F.cells 26):=⟨_,rfl⟩;obtain⟨g,hg⟩:∃y,y=w.heap.size:=⟨_,rfl⟩;rw[←hw1,←hg]at hR;rw[←hw1]at hbn;have hH1:=Za (hH.below hbn hH.lt);have ha1:=Za (ha.below hbn);have hb1:=Za (hb.below hbn);have hR1:=Za hR;have hfo:=Za hw1.symm;have hg':=Za hg.symm;obtain⟨pa,rfl⟩:=ha.vp;obtain⟨pb,rfl⟩:=hb.vp;obtain⟨R,hRR⟩:∃R,R=dJ F.K (.mk k n nm a b):=⟨_,rfl⟩;rw[←hRR];have og:=Za hRR;unfold FnV.cells at hfo;clear hR hbn hw1 hg hH ha hb hF hRR;unfold FnV.cells;have q0:w1.cell? ⟨gx,0,none⟩=some (.int .i64 k):=hH1.out.cell 0;have q2:w1.cell? ⟨gx,2,none⟩=some (.string (ay nm)):=hH1.out.cell 2;have q3:w1.cell? ⟨gx,3,none⟩=some (.pointer pa):=hH1.out.cell 3;have q4:w1.cell? ⟨gx,4,none⟩=some (.pointer pb):=hH1.out.cell 4;have qx:=hH1.out.lt;obtain⟨p0,p1,p2,p3,pl⟩:=hR1.out.facts;go_enter Tryz.func144,Tryz.ntmps144;go_upto_region 1 with(fail);rw[hfo.out,hg'.out];clear hfo hg';obtain⟨wW,hwd⟩:∃y,y=w1.drew:=⟨_,rfl⟩
  have hbd:Below w1.heap.size w1 wW:=by rw[hwd];exact(Below.refl _ w1).drew
  have hRd:=Za (hR1.out.below hbd);have had:=Za (ha1.out.below hbd);have D_:=Za (hb1.out.below hbd);have hHd:=Za (hH1.out.below hbd hH1.out.lt);have hfd:=Za hwd.symm;clear hwd hbd hR1 ha1 hb1 hH1;by_cases hk1:k=1
  ·subst hk1;have hR2:Hid (R=(F.K nm !=2)):=Za (by rw[og.out];unfold dJ;rw[if_pos rfl]);have hc:=Za (fE F wW hRd.out.ok nm);unfold FnV.cells at hc;go_wp2_with fail
   go_still_tail 5,(by kernel_rfl)
   change wpList _ _ _ _ _ w1.drew;rw[hfd.out];clear q0 q2 q3 q4 qx p0 p1 p2 p3 pl hfd;go_wp2_with fail;refine hc.out.mono ?_;rintro e5 w5 ⟨rfl,hb5⟩;have hB5:=Za (hRd.out.below hb5).bl;clear hb5 hc;go_wp2_with fail;go_ret;refine⟨?_,hB5.out⟩;rw[hR2.out];exact congrArg (fun b=>Ending.returned (.bool b)) (bne_cast (F.K nm))
  ·have hR2:Hid (R=(dJ F.K a&&dJ F.K b)):=Za (by rw[og.out];conv=>lhs;unfold dJ;rw[if_neg hk1])
   have hk2:((k:Int)==1)=false:=by simp;omega
   have cx:=Za fun(w:World) (hb:Below wW.heap.size wW w)=>eG F a w _ (hRd.out.ok.below hb) (had.out.below hb);have cb:=Za fun(w:World) (hb:Below wW.heap.size wW w)=>eG F b w _ (hRd.out.ok.below hb) (D_.out.below hb)
   have hfc:Hid (∀w:World,Below wW.heap.size wW w→w.cell? ⟨g,0,none⟩=some (.string (ay F.nm))∧w.cell? ⟨g,1,none⟩=some (.slice F.A1 F.ps.length F.c1)∧w.cell? ⟨g,2,none⟩=some (.slice F.A2 F.ls.length F.c2)∧w.cell? ⟨g,3,none⟩=some (.slice F.A3 F.n3 F.c3)∧g<w.heap.size∧w.cell? ⟨gx,3,none⟩=some (.pointer pa)∧w.cell? ⟨gx,4,none⟩=some (.pointer pb)∧gx<w.heap.size):=Za fun w hb=>by obtain⟨x0,x1,x2,x3,xl⟩:=(hRd.out.below hb).facts;have hx:=hHd.out.below hb hHd.out.lt;exact⟨x0,x1,x2,x3,xl,hx.cell 3,hx.cell 4,hx.lt⟩
   unfold FnV.cells at cx cb;have hBd:=Za hRd.out.bl;clear hk1;go_wp2_with fail;clear q0 q2 q3 q4 qx p0 p1 p2 p3 pl hRd had D_ hHd og;have hgo:Hid (Below wW.heap.size wW w1.drew):=Za (by rw[hfd.out];exact Below.refl _ _);clear hfd
   cases hA:dJ F.K a with
   |false=>
    have hR3:Hid (R=false):=Za (by rw[hR2.out,hA];rfl);rw[hA]at cx;have ca:=cx;clear hA cx;refine aC ((eqv (.agg #[.string (ay F.nm),.slice F.A1 F.ps.length F.c1,.slice F.A2 F.ls.length F.c2,.slice F.A3 F.n3 F.c3]))::(eqv (.pointer (some ⟨gx,0,none⟩)))::(eqv (.pointer (some ⟨gx,0,none⟩)))::(eqv (.pointer (some ⟨gx,3,none⟩)))::(eqv (.pointer pa))::(eqv (.bool false))::(eqv (.bool false))::eud::eud::eud::eud::eud::eud::(eqv (.bool false))::(eqv (.bool false))::[])
     ((rn1 2)::(rn1 1)::(rd1 20 1)::(rd1 21 2)::(rd1 22 3)::⟨[(19,some 0),(23,some 4)],0,[]⟩::(rd1 24 5)::(rq1 2 25 6)::(rq1 1 25 6)::(rg1 27 8 25 6)::(rg1 28 9 25 6)::(rg1 29 10 25 6)::⟨[(26,some 7),(30,some 11),(25,some 6)],25,[]⟩::⟨[(25,some 6),(31,some 12)],0,[]⟩::(rd1 32 13)::[])
     (no::no::no::no::so 14::no::no::no::no::no::no::no::no::no::no::no::no::no::no::so 0::so 1::so 2::so 3::so 4::so 5::so 6::so 7::so 8::so 9::so 10::so 11::so 12::so 13::[])
     (fun _ w'=>Below wW.heap.size wW w') (fun _ w w'=>Below w.heap.size w w') ?mixK5intsF ?okK5intsF ?tabK5intsF ?frK5intsF ?inK5intsF ?keptK5intsF ?startK5intsF ?eachK5intsF ?finK5intsF
    case mixK5intsF|okK5intsF|tabK5intsF|frK5intsF=>kernel_rfl
    case inK5intsF=>rfl
    case keptK5intsF=>((repeat refine⟨fun _ _ _ _ _ _ _ _ _ _ _ h=>h,?_⟩);exact trivial)
    case startK5intsF=>exact hgo.out
    case eachK5intsF=>
     repeat' first|exact trivial|refine And.intro ?_ ?_
     ·intro w L f hC hLi hLd hLn ⟨a,_⟩;change _=_ at a;refine au.live rfl ?_;obtain⟨p0,p1,p2,p3,pl,q3,q4,qx⟩:=hfc.out w hC;obtain⟨ev,ec,ef⟩:=evs f;refine aj ?_ hC (Below.refl _ _) rfl;go_simp
     ·intro w L f hC hLi hLd hLn ⟨d,_⟩;refine au.live rfl ?_;exact aj (v:=f 1) rfl (hC) (Below.refl _ _) d
     iterate 3 (intro w L f hC hLi hLd hLn ⟨a,_⟩;change _=_ at a;refine au.live rfl ?_;obtain⟨p0,p1,p2,p3,pl,q3,q4,qx⟩:=hfc.out w hC;obtain⟨ev,ec,ef⟩:=evs f;refine aj ?_ hC (Below.refl _ _) rfl;go_simp)
     ·intro w L f hC hLi hLd hLn ⟨a,b,_⟩;change _=_ at a b;refine au.live rfl ?_;obtain⟨ev,ec,ef⟩:=evs f;refine aF (f:=144) (args:= #[.agg #[.string (ay F.nm),.slice F.A1 F.ps.length F.c1,.slice F.A2 F.ls.length F.c2,.slice F.A3 F.n3 F.c3],.pointer pa]) (w:=w) (by go_simp) (ca.out w hC) ?_;rintro e w1 ⟨he,hB⟩;exact⟨_,he,hC.trans (hB.mono hC.size),hB,rfl⟩
     ·intro w L f hC hLi hLd hLn ⟨d,_⟩;refine au.live rfl ?_;exact aj (v:=f 24) rfl (hC) (Below.refl _ _) d
     iterate 5 (intro w L f hC hLi hLd hLn ⟨_,d,_⟩;refine aI.dead (show ak _ (f 25)=false by rw[show f 25=_ from d];rfl) (hC) ?_ (Below.refl _ _);exact rfl)
     ·intro w L f hC hLi hLd hLn ⟨_,_,d,_⟩;refine aI.dead (show ak _ (f 25)=false by rw[show f 25=_ from d];rfl) (hC) ?_ (Below.refl _ _);exact rfl
     ·intro w L f hC hLi hLd hLn ⟨a,b,_⟩;change _=_ at a b;refine au.live rfl ?_;obtain⟨ev,ec,ef⟩:=evs f;refine aj ?_ (hC) (Below.refl _ _) rfl;go_simp
     ·intro w L f hC hLi hLd hLn ⟨d,_⟩;refine au.live rfl ?_;exact aj (v:=f 32) rfl (hC) (Below.refl _ _) d
    intro x w' hC hV
    have e4:=hV 14 _ rfl rfl;have hC':=Za (hBd.out.trans (hC.mono hBd.out.size));clear hV hC;simp only[framed];rw[e4];go_wp2_with fail;go_ret;exact⟨by rw[hR3.out];rfl,hC'.out⟩
   |true=>
    have hR3:Hid (R=dJ F.K b):=Za (by rw[hR2.out,hA];rfl);rw[hA]at cx;have ca:=cx;clear hA cx;refine aC ((eqv (.agg #[.string (ay F.nm),.slice F.A1 F.ps.length F.c1,.slice F.A2 F.ls.length F.c2,.slice F.A3 F.n3 F.c3]))::(eqv (.pointer (some ⟨gx,0,none⟩)))::(eqv (.pointer (some ⟨gx,0,none⟩)))::(eqv (.pointer (some ⟨gx,3,none⟩)))::(eqv (.pointer pa))::(eqv (.bool true))::(eqv (.bool true))::(eqv (.agg #[.string (ay F.nm),.slice F.A1 F.ps.length F.c1,.slice F.A2 F.ls.length F.c2,.slice F.A3 F.n3 F.c3]))::(eqv (.pointer (some ⟨gx,0,none⟩)))::(eqv (.pointer (some ⟨gx,0,none⟩)))::(eqv (.pointer (some ⟨gx,4,none⟩)))::(eqv (.pointer pb))::(eqv (.bool (dJ F.K b)))::(eqv (.bool (dJ F.K b)))::(eqv (.bool (dJ F.K b)))::[])
     ((rn1 2)::(rn1 1)::(rd1 20 1)::(rd1 21 2)::(rd1 22 3)::⟨[(19,some 0),(23,some 4)],0,[]⟩::(rd1 24 5)::(rq1 2 25 6)::(rq1 1 25 6)::(rg1 27 8 25 6)::(rg1 28 9 25 6)::(rg1 29 10 25 6)::⟨[(26,some 7),(30,some 11),(25,some 6)],25,[]⟩::⟨[(25,some 6),(31,some 12)],0,[]⟩::(rd1 32 13)::[])
     (no::no::no::no::so 14::no::no::no::no::no::no::no::no::no::no::no::no::no::no::so 0::so 1::so 2::so 3::so 4::so 5::so 6::so 7::so 8::so 9::so 10::so 11::so 12::so 13::[])
     (fun _ w'=>Below wW.heap.size wW w') (fun _ w w'=>Below w.heap.size w w') ?mixK5intsT ?okK5intsT ?tabK5intsT ?frK5intsT ?inK5intsT ?keptK5intsT ?startK5intsT ?eachK5intsT ?finK5intsT
    case mixK5intsT|okK5intsT|tabK5intsT|frK5intsT=>kernel_rfl
    case inK5intsT=>rfl
    case keptK5intsT=>((repeat refine⟨fun _ _ _ _ _ _ _ _ _ _ _ h=>h,?_⟩);exact trivial)
    case startK5intsT=>exact hgo.out
    case eachK5intsT=>
     repeat' first|exact trivial|refine And.intro ?_ ?_
     ·intro w L f hC hLi hLd hLn ⟨a,_⟩;change _=_ at a;refine au.live rfl ?_;obtain⟨p0,p1,p2,p3,pl,q3,q4,qx⟩:=hfc.out w hC;obtain⟨ev,ec,ef⟩:=evs f;refine aj ?_ hC (Below.refl _ _) rfl;go_simp
     ·intro w L f hC hLi hLd hLn ⟨d,_⟩;refine au.live rfl ?_;exact aj (v:=f 1) rfl (hC) (Below.refl _ _) d
     iterate 3 (intro w L f hC hLi hLd hLn ⟨a,_⟩;change _=_ at a;refine au.live rfl ?_;obtain⟨p0,p1,p2,p3,pl,q3,q4,qx⟩:=hfc.out w hC;obtain⟨ev,ec,ef⟩:=evs f;refine aj ?_ hC (Below.refl _ _) rfl;go_simp)
     ·intro w L f hC hLi hLd hLn ⟨a,b,_⟩;change _=_ at a b;refine au.live rfl ?_;obtain⟨ev,ec,ef⟩:=evs f;refine aF (f:=144) (args:= #[.agg #[.string (ay F.nm),.slice F.A1 F.ps.length F.c1,.slice F.A2 F.ls.length F.c2,.slice F.A3 F.n3 F.c3],.pointer pa]) (w:=w) (by go_simp) (ca.out w hC) ?_;rintro e w1 ⟨he,hB⟩;exact⟨_,he,hC.trans (hB.mono hC.size),hB,rfl⟩
     ·intro w L f hC hLi hLd hLn ⟨d,_⟩;refine au.live rfl ?_;exact aj (v:=f 24) rfl (hC) (Below.refl _ _) d
     ·intro w L f hC hLi hLd hLn ⟨a,d25,_⟩;change _=_ at a d25;refine au.live (show ak _ (f 25)=true by rw[d25];rfl) ?_;obtain⟨p0,p1,p2,p3,pl,q3,q4,qx⟩:=hfc.out w hC;obtain⟨ev,ec,ef⟩:=evs f;refine aj ?_ hC (Below.refl _ _) rfl;go_simp
     ·intro w L f hC hLi hLd hLn ⟨d1,d25,_⟩;change _=_ at d1 d25;refine au.live (show ak _ (f 25)=true by rw[d25];rfl) ?_;exact aj (v:=f 1) rfl (hC) (Below.refl _ _) d1
     iterate 3 (intro w L f hC hLi hLd hLn ⟨a,d25,_⟩;change _=_ at a d25;refine au.live (show ak _ (f 25)=true by rw[d25];rfl) ?_;obtain⟨p0,p1,p2,p3,pl,q3,q4,qx⟩:=hfc.out w hC;obtain⟨ev,ec,ef⟩:=evs f;refine aj ?_ hC (Below.refl _ _) rfl;go_simp)
     ·intro w L f hC hLi hLd hLn ⟨a,b,d25,_⟩;change _=_ at a b d25;refine au.live (show ak _ (f 25)=true by rw[d25];rfl) ?_;obtain⟨ev,ec,ef⟩:=evs f;refine aF (f:=144) (args:= #[.agg #[.string (ay F.nm),.slice F.A1 F.ps.length F.c1,.slice F.A2 F.ls.length F.c2,.slice F.A3 F.n3 F.c3],.pointer pb]) (w:=w) (by go_simp) (cb.out w hC) ?_;rintro e w1 ⟨he,hB⟩;exact⟨_,he,hC.trans (hB.mono hC.size),hB,rfl⟩
     ·intro w L f hC hLi hLd hLn ⟨a,b,_⟩;change _=_ at a b;refine au.live rfl ?_;obtain⟨ev,ec,ef⟩:=evs f;refine aj ?_ (hC) (Below.refl _ _) rfl;go_simp
     ·intro w L f hC hLi hLd hLn ⟨d,_⟩;refine au.live rfl ?_;exact aj (v:=f 32) rfl (hC) (Below.refl _ _) d
    intro x w' hC hV
    have e4:=hV 14 _ rfl rfl;have hC':=Za (hBd.out.trans (hC.mono hBd.out.size));clear hV hC;simp only[framed];rw[e4];go_wp2_with fail;go_ret;exact⟨by rw[hR3.out];rfl,hC'.out⟩
theorem kE (F:FnV):∀(e:Cn) (w:World) (v:Value),F.ok w→bC w Evr e v→Calls Tryz.prog 145 #[.agg F.cells,v] w fun e' w'=>e'= .returned (.bool (fZ F.K e))∧Below w.heap.size w w'
 | .nil,w,v,hF,h=>by
  obtain rfl:v= .pointer none:=h;have hb:=Za (aA w (.cells F.cells 26));unfold FnV.cells at hb⊢;go_enter Tryz.func145,Tryz.ntmps145;go_wp2_with fail;go_ret;exact⟨rfl,hb.out⟩
 | .mk k a b p q nm,w,v,hF,h=>by
  have hR:=RfB.new hF;obtain⟨gx,va,vb,vp,vq,rfl,-,hn,hk,hH,ha,hb,hp,hq⟩:=h;have hbn:=aA w (.cells F.cells 26);obtain⟨w1,hw1⟩:∃y,y=w.alloc (.cells F.cells 26):=⟨_,rfl⟩;obtain⟨g,hg⟩:∃y,y=w.heap.size:=⟨_,rfl⟩;rw[←hw1,←hg]at hR;rw[←hw1]at hbn;have hH1:=Za (hH.below hbn hH.lt);have ha1:=Za (ha.below hbn);have hb1:=Za (hb.below hbn);have hp1:=Za (hp.keep fun x hx _=>hbn.block x hx);have hq1:=Za (hq.keep fun x hx _=>hbn.block x hx);have hR1:=Za hR;have hfo:=Za hw1.symm;have hg':=Za hg.symm;obtain⟨pa,rfl⟩:=ha.vp;obtain⟨pb,rfl⟩:=hb.vp;obtain⟨pp,rfl⟩:=hp.vp;obtain⟨pq,rfl⟩:=hq.vp;obtain⟨R,hRR⟩:∃R,R=fZ F.K (.mk k a b p q nm):=⟨_,rfl⟩;rw[←hRR];have og:=Za hRR;unfold FnV.cells at hfo;clear hR hbn hw1 hg hH ha hb hp hq hF hRR;unfold FnV.cells;have q0:w1.cell? ⟨gx,0,none⟩=some (.int .i64 k):=hH1.out.cell 0;have q5:w1.cell? ⟨gx,5,none⟩=some (.string (ay nm)):=hH1.out.cell 5;have qx:=hH1.out.lt;obtain⟨p0,p1,p2,p3,pl⟩:=hR1.out.facts;go_enter Tryz.func145,Tryz.ntmps145;go_upto_region 1 with(fail);rw[hfo.out,hg'.out];clear hfo hg'
  obtain⟨wW,hwd⟩:∃y,y=w1.drew:=⟨_,rfl⟩
  have hbd:Below w1.heap.size w1 wW:=by rw[hwd];exact(Below.refl _ w1).drew
  have hRd:=Za (hR1.out.below hbd);have had:=Za (ha1.out.below hbd);have D_:=Za (hb1.out.below hbd);have hpd:=Za (hp1.out.keep fun x hx _=>hbd.block x hx);have hqd:=Za (hq1.out.keep fun x hx _=>hbd.block x hx);have hHd:=Za (hH1.out.below hbd hH1.out.lt);have hfd:=Za hwd.symm;clear hwd hbd hR1 ha1 hb1 hp1 hq1 hH1;by_cases hk1:k=9
  ·subst hk1;have hR2:Hid (R=(F.K nm==2)):=Za (by rw[og.out];unfold fZ;rw[if_pos rfl]);have hc:=Za (fE F wW hRd.out.ok nm);unfold FnV.cells at hc;go_wp2_with fail
   go_still_tail 5,(by kernel_rfl)
   change wpList _ _ _ _ _ w1.drew;rw[hfd.out];clear q0 q5 qx p0 p1 p2 p3 pl hfd;go_wp2_with fail;refine hc.out.mono ?_;rintro e5 w5 ⟨rfl,hb5⟩;have hB5:=Za (hRd.out.below hb5).bl;clear hb5 hc;go_wp2_with fail;go_ret;refine⟨?_,hB5.out⟩;rw[hR2.out];exact congrArg (fun b=>Ending.returned (.bool b)) (kH (F.K nm) 2)
  ·have hR2:Hid (R=(dJ F.K a&&dJ F.K b&&fZ F.K p&&fZ F.K q)):=Za (by rw[og.out];conv=>lhs;unfold fZ;rw[if_neg hk1])
   have hk2:((k:Int)==9)=false:=by simp;omega
   have cxa:=Za fun(w:World) (hb:Below wW.heap.size wW w)=>eG F a w _ (hRd.out.ok.below hb) (had.out.below hb);have cxb:=Za fun(w:World) (hb:Below wW.heap.size wW w)=>eG F b w _ (hRd.out.ok.below hb) (D_.out.below hb);have cxp:=Za fun(w:World) (hb:Below wW.heap.size wW w)=>kE F p w _ (hRd.out.ok.below hb) (hpd.out.keep fun x hx _=>hb.block x hx);have cq:=Za fun(w:World) (hb:Below wW.heap.size wW w)=>kE F q w _ (hRd.out.ok.below hb) (hqd.out.keep fun x hx _=>hb.block x hx)
   have hfc:Hid (∀w:World,Below wW.heap.size wW w→w.cell? ⟨g,0,none⟩=some (.string (ay F.nm))∧w.cell? ⟨g,1,none⟩=some (.slice F.A1 F.ps.length F.c1)∧w.cell? ⟨g,2,none⟩=some (.slice F.A2 F.ls.length F.c2)∧w.cell? ⟨g,3,none⟩=some (.slice F.A3 F.n3 F.c3)∧g<w.heap.size∧w.cell? ⟨gx,1,none⟩=some (.pointer pa)∧w.cell? ⟨gx,2,none⟩=some (.pointer pb)∧w.cell? ⟨gx,3,none⟩=some (.pointer pp)∧w.cell? ⟨gx,4,none⟩=some (.pointer pq)∧gx<w.heap.size):=Za fun w hb=>by obtain⟨x0,x1,x2,x3,xl⟩:=(hRd.out.below hb).facts;have hx:=hHd.out.below hb hHd.out.lt;exact⟨x0,x1,x2,x3,xl,hx.cell 1,hx.cell 2,hx.cell 3,hx.cell 4,hx.lt⟩
   unfold FnV.cells at cxa cxb cxp cq;have hBd:=Za hRd.out.bl;clear hk1;go_wp2_with fail;clear q0 q5 qx p0 p1 p2 p3 pl hRd had D_ hpd hqd hHd og;have hgo:Hid (Below wW.heap.size wW w1.drew):=Za (by rw[hfd.out];exact Below.refl _ _);clear hfd
   cases hA:dJ F.K a with
   |false=>
    have hR3:Hid (R=false):=Za (by rw[hR2.out,hA];simp);rw[hA]at cxa;have ca:=cxa;clear hA cxa;refine aC ((eqv (.agg #[.string (ay F.nm),.slice F.A1 F.ps.length F.c1,.slice F.A2 F.ls.length F.c2,.slice F.A3 F.n3 F.c3]))::(eqv (.pointer (some ⟨gx,0,none⟩)))::(eqv (.pointer (some ⟨gx,0,none⟩)))::(eqv (.pointer (some ⟨gx,1,none⟩)))::(eqv (.pointer pa))::(eqv (.bool false))::(eqv (.bool false))::eud::eud::eud::eud::eud::eud::(eqv (.bool false))::(eqv (.bool false))::eud::eud::eud::eud::eud::eud::(eqv (.bool false))::(eqv (.bool false))::eud::eud::eud::eud::eud::eud::(eqv (.bool false))::(eqv (.bool false))::[])
     ((rn1 2)::(rn1 1)::(rd1 20 1)::(rd1 21 2)::(rd1 22 3)::⟨[(19,some 0),(23,some 4)],0,[]⟩::(rd1 24 5)::(rq1 2 25 6)::(rq1 1 25 6)::(rg1 27 8 25 6)::(rg1 28 9 25 6)::(rg1 29 10 25 6)::⟨[(26,some 7),(30,some 11),(25,some 6)],25,[]⟩::⟨[(25,some 6),(31,some 12)],0,[]⟩::(rd1 32 13)::(rq1 2 33 14)::(rq1 1 33 14)::(rg1 35 16 33 14)::(rg1 36 17 33 14)::(rg1 37 18 33 14)::⟨[(34,some 15),(38,some 19),(33,some 14)],33,[]⟩::⟨[(33,some 14),(39,some 20)],0,[]⟩::(rd1 40 21)::(rq1 2 41 22)::(rq1 1 41 22)::(rg1 43 24 41 22)::(rg1 44 25 41 22)::(rg1 45 26 41 22)::⟨[(42,some 23),(46,some 27),(41,some 22)],41,[]⟩::⟨[(41,some 22),(47,some 28)],0,[]⟩::(rd1 48 29)::[])
     (no::no::no::no::so 30::no::no::no::no::no::no::no::no::no::no::no::no::no::no::so 0::so 1::so 2::so 3::so 4::so 5::so 6::so 7::so 8::so 9::so 10::so 11::so 12::so 13::so 14::so 15::so 16::so 17::so 18::so 19::so 20::so 21::so 22::so 23::so 24::so 25::so 26::so 27::so 28::so 29::[])
     (fun _ w'=>Below wW.heap.size wW w') (fun _ w w'=>Below w.heap.size w w') ?mixK5condsA ?okK5condsA ?tabK5condsA ?frK5condsA ?inK5condsA ?keptK5condsA ?startK5condsA ?eachK5condsA ?finK5condsA
    case mixK5condsA|okK5condsA|tabK5condsA|frK5condsA=>kernel_rfl
    case inK5condsA=>rfl
    case keptK5condsA=>((repeat refine⟨fun _ _ _ _ _ _ _ _ _ _ _ h=>h,?_⟩);exact trivial)
    case startK5condsA=>exact hgo.out
    case eachK5condsA=>
     repeat' first|exact trivial|refine And.intro ?_ ?_
     ·intro w L f hC hLi hLd hLn ⟨a,_⟩;change _=_ at a;refine au.live rfl ?_;obtain⟨p0,p1,p2,p3,pl,q1,q2,q3,q4,qx⟩:=hfc.out w hC;obtain⟨ev,ec,ef⟩:=evs f;refine aj ?_ hC (Below.refl _ _) rfl;go_simp
     ·intro w L f hC hLi hLd hLn ⟨d,_⟩;refine au.live rfl ?_;exact aj (v:=f 1) rfl (hC) (Below.refl _ _) d
     iterate 3 (intro w L f hC hLi hLd hLn ⟨a,_⟩;change _=_ at a;refine au.live rfl ?_;obtain⟨p0,p1,p2,p3,pl,q1,q2,q3,q4,qx⟩:=hfc.out w hC;obtain⟨ev,ec,ef⟩:=evs f;refine aj ?_ hC (Below.refl _ _) rfl;go_simp)
     ·intro w L f hC hLi hLd hLn ⟨a,b,_⟩;change _=_ at a b;refine au.live rfl ?_;obtain⟨ev,ec,ef⟩:=evs f;refine aF (f:=144) (args:= #[.agg #[.string (ay F.nm),.slice F.A1 F.ps.length F.c1,.slice F.A2 F.ls.length F.c2,.slice F.A3 F.n3 F.c3],.pointer pa]) (w:=w) (by go_simp) (ca.out w hC) ?_;rintro e w1 ⟨he,hB⟩;exact⟨_,he,hC.trans (hB.mono hC.size),hB,rfl⟩
     ·intro w L f hC hLi hLd hLn ⟨d,_⟩;refine au.live rfl ?_;exact aj (v:=f 24) rfl (hC) (Below.refl _ _) d
     iterate 5 (intro w L f hC hLi hLd hLn ⟨_,d,_⟩;refine aI.dead (show ak _ (f 25)=false by rw[show f 25=_ from d];rfl) (hC) ?_ (Below.refl _ _);exact rfl)
     ·intro w L f hC hLi hLd hLn ⟨_,_,d,_⟩;refine aI.dead (show ak _ (f 25)=false by rw[show f 25=_ from d];rfl) (hC) ?_ (Below.refl _ _);exact rfl
     ·intro w L f hC hLi hLd hLn ⟨a,b,_⟩;change _=_ at a b;refine au.live rfl ?_;obtain⟨ev,ec,ef⟩:=evs f;refine aj ?_ (hC) (Below.refl _ _) rfl;go_simp
     ·intro w L f hC hLi hLd hLn ⟨d,_⟩;refine au.live rfl ?_;exact aj (v:=f 32) rfl (hC) (Below.refl _ _) d
     iterate 5 (intro w L f hC hLi hLd hLn ⟨_,d,_⟩;refine aI.dead (show ak _ (f 33)=false by rw[show f 33=_ from d];rfl) (hC) ?_ (Below.refl _ _);exact rfl)
     ·intro w L f hC hLi hLd hLn ⟨_,_,d,_⟩;refine aI.dead (show ak _ (f 33)=false by rw[show f 33=_ from d];rfl) (hC) ?_ (Below.refl _ _);exact rfl
     ·intro w L f hC hLi hLd hLn ⟨a,b,_⟩;change _=_ at a b;refine au.live rfl ?_;obtain⟨ev,ec,ef⟩:=evs f;refine aj ?_ (hC) (Below.refl _ _) rfl;go_simp
     ·intro w L f hC hLi hLd hLn ⟨d,_⟩;refine au.live rfl ?_;exact aj (v:=f 40) rfl (hC) (Below.refl _ _) d
     iterate 5 (intro w L f hC hLi hLd hLn ⟨_,d,_⟩;refine aI.dead (show ak _ (f 41)=false by rw[show f 41=_ from d];rfl) (hC) ?_ (Below.refl _ _);exact rfl)
     ·intro w L f hC hLi hLd hLn ⟨_,_,d,_⟩;refine aI.dead (show ak _ (f 41)=false by rw[show f 41=_ from d];rfl) (hC) ?_ (Below.refl _ _);exact rfl
     ·intro w L f hC hLi hLd hLn ⟨a,b,_⟩;change _=_ at a b;refine au.live rfl ?_;obtain⟨ev,ec,ef⟩:=evs f;refine aj ?_ (hC) (Below.refl _ _) rfl;go_simp
     ·intro w L f hC hLi hLd hLn ⟨d,_⟩;refine au.live rfl ?_;exact aj (v:=f 48) rfl (hC) (Below.refl _ _) d
    intro x w' hC hV
    have e4:=hV 30 _ rfl rfl;have hC':=Za (hBd.out.trans (hC.mono hBd.out.size));clear hV hC;simp only[framed];rw[e4];go_wp2_with fail;go_ret;exact⟨by rw[hR3.out];rfl,hC'.out⟩
   |true=>
    rw[hA]at cxa;have ca:=cxa;clear cxa
    cases hB2:dJ F.K b with
    |false=>
     have hR3:Hid (R=false):=Za (by rw[hR2.out,hA,hB2];simp);rw[hB2]at cxb;have cb:=cxb;clear hA hB2 cxb;refine aC ((eqv (.agg #[.string (ay F.nm),.slice F.A1 F.ps.length F.c1,.slice F.A2 F.ls.length F.c2,.slice F.A3 F.n3 F.c3]))::(eqv (.pointer (some ⟨gx,0,none⟩)))::(eqv (.pointer (some ⟨gx,0,none⟩)))::(eqv (.pointer (some ⟨gx,1,none⟩)))::(eqv (.pointer pa))::(eqv (.bool true))::(eqv (.bool true))::(eqv (.agg #[.string (ay F.nm),.slice F.A1 F.ps.length F.c1,.slice F.A2 F.ls.length F.c2,.slice F.A3 F.n3 F.c3]))::(eqv (.pointer (some ⟨gx,0,none⟩)))::(eqv (.pointer (some ⟨gx,0,none⟩)))::(eqv (.pointer (some ⟨gx,2,none⟩)))::(eqv (.pointer pb))::(eqv (.bool false))::(eqv (.bool false))::(eqv (.bool false))::eud::eud::eud::eud::eud::eud::(eqv (.bool false))::(eqv (.bool false))::eud::eud::eud::eud::eud::eud::(eqv (.bool false))::(eqv (.bool false))::[])
      ((rn1 2)::(rn1 1)::(rd1 20 1)::(rd1 21 2)::(rd1 22 3)::⟨[(19,some 0),(23,some 4)],0,[]⟩::(rd1 24 5)::(rq1 2 25 6)::(rq1 1 25 6)::(rg1 27 8 25 6)::(rg1 28 9 25 6)::(rg1 29 10 25 6)::⟨[(26,some 7),(30,some 11),(25,some 6)],25,[]⟩::⟨[(25,some 6),(31,some 12)],0,[]⟩::(rd1 32 13)::(rq1 2 33 14)::(rq1 1 33 14)::(rg1 35 16 33 14)::(rg1 36 17 33 14)::(rg1 37 18 33 14)::⟨[(34,some 15),(38,some 19),(33,some 14)],33,[]⟩::⟨[(33,some 14),(39,some 20)],0,[]⟩::(rd1 40 21)::(rq1 2 41 22)::(rq1 1 41 22)::(rg1 43 24 41 22)::(rg1 44 25 41 22)::(rg1 45 26 41 22)::⟨[(42,some 23),(46,some 27),(41,some 22)],41,[]⟩::⟨[(41,some 22),(47,some 28)],0,[]⟩::(rd1 48 29)::[])
      (no::no::no::no::so 30::no::no::no::no::no::no::no::no::no::no::no::no::no::no::so 0::so 1::so 2::so 3::so 4::so 5::so 6::so 7::so 8::so 9::so 10::so 11::so 12::so 13::so 14::so 15::so 16::so 17::so 18::so 19::so 20::so 21::so 22::so 23::so 24::so 25::so 26::so 27::so 28::so 29::[])
      (fun _ w'=>Below wW.heap.size wW w') (fun _ w w'=>Below w.heap.size w w') ?mixK5condsB ?okK5condsB ?tabK5condsB ?frK5condsB ?inK5condsB ?keptK5condsB ?startK5condsB ?eachK5condsB ?finK5condsB
     case mixK5condsB|okK5condsB|tabK5condsB|frK5condsB=>kernel_rfl
     case inK5condsB=>rfl
     case keptK5condsB=>((repeat refine⟨fun _ _ _ _ _ _ _ _ _ _ _ h=>h,?_⟩);exact trivial)
     case startK5condsB=>exact hgo.out
     case eachK5condsB=>
      repeat' first|exact trivial|refine And.intro ?_ ?_
      ·intro w L f hC hLi hLd hLn ⟨a,_⟩;change _=_ at a;refine au.live rfl ?_;obtain⟨p0,p1,p2,p3,pl,q1,q2,q3,q4,qx⟩:=hfc.out w hC;obtain⟨ev,ec,ef⟩:=evs f;refine aj ?_ hC (Below.refl _ _) rfl;go_simp
      ·intro w L f hC hLi hLd hLn ⟨d,_⟩;refine au.live rfl ?_;exact aj (v:=f 1) rfl (hC) (Below.refl _ _) d
      iterate 3 (intro w L f hC hLi hLd hLn ⟨a,_⟩;change _=_ at a;refine au.live rfl ?_;obtain⟨p0,p1,p2,p3,pl,q1,q2,q3,q4,qx⟩:=hfc.out w hC;obtain⟨ev,ec,ef⟩:=evs f;refine aj ?_ hC (Below.refl _ _) rfl;go_simp)
      ·intro w L f hC hLi hLd hLn ⟨a,b,_⟩;change _=_ at a b;refine au.live rfl ?_;obtain⟨ev,ec,ef⟩:=evs f;refine aF (f:=144) (args:= #[.agg #[.string (ay F.nm),.slice F.A1 F.ps.length F.c1,.slice F.A2 F.ls.length F.c2,.slice F.A3 F.n3 F.c3],.pointer pa]) (w:=w) (by go_simp) (ca.out w hC) ?_;rintro e w1 ⟨he,hB⟩;exact⟨_,he,hC.trans (hB.mono hC.size),hB,rfl⟩
      ·intro w L f hC hLi hLd hLn ⟨d,_⟩;refine au.live rfl ?_;exact aj (v:=f 24) rfl (hC) (Below.refl _ _) d
      ·intro w L f hC hLi hLd hLn ⟨a,d25,_⟩;change _=_ at a d25;refine au.live (show ak _ (f 25)=true by rw[d25];rfl) ?_;obtain⟨p0,p1,p2,p3,pl,q1,q2,q3,q4,qx⟩:=hfc.out w hC;obtain⟨ev,ec,ef⟩:=evs f;refine aj ?_ hC (Below.refl _ _) rfl;go_simp
      ·intro w L f hC hLi hLd hLn ⟨d1,d25,_⟩;change _=_ at d1 d25;refine au.live (show ak _ (f 25)=true by rw[d25];rfl) ?_;exact aj (v:=f 1) rfl (hC) (Below.refl _ _) d1
      iterate 3 (intro w L f hC hLi hLd hLn ⟨a,d25,_⟩;change _=_ at a d25;refine au.live (show ak _ (f 25)=true by rw[d25];rfl) ?_;obtain⟨p0,p1,p2,p3,pl,q1,q2,q3,q4,qx⟩:=hfc.out w hC;obtain⟨ev,ec,ef⟩:=evs f;refine aj ?_ hC (Below.refl _ _) rfl;go_simp)
      ·intro w L f hC hLi hLd hLn ⟨a,b,d25,_⟩;change _=_ at a b d25;refine au.live (show ak _ (f 25)=true by rw[d25];rfl) ?_;obtain⟨ev,ec,ef⟩:=evs f;refine aF (f:=144) (args:= #[.agg #[.string (ay F.nm),.slice F.A1 F.ps.length F.c1,.slice F.A2 F.ls.length F.c2,.slice F.A3 F.n3 F.c3],.pointer pb]) (w:=w) (by go_simp) (cb.out w hC) ?_;rintro e w1 ⟨he,hB⟩;exact⟨_,he,hC.trans (hB.mono hC.size),hB,rfl⟩
      ·intro w L f hC hLi hLd hLn ⟨a,b,_⟩;change _=_ at a b;refine au.live rfl ?_;obtain⟨ev,ec,ef⟩:=evs f;refine aj ?_ (hC) (Below.refl _ _) rfl;go_simp
      ·intro w L f hC hLi hLd hLn ⟨d,_⟩;refine au.live rfl ?_;exact aj (v:=f 32) rfl (hC) (Below.refl _ _) d
      iterate 5 (intro w L f hC hLi hLd hLn ⟨_,d,_⟩;refine aI.dead (show ak _ (f 33)=false by rw[show f 33=_ from d];rfl) (hC) ?_ (Below.refl _ _);exact rfl)
      ·intro w L f hC hLi hLd hLn ⟨_,_,d,_⟩;refine aI.dead (show ak _ (f 33)=false by rw[show f 33=_ from d];rfl) (hC) ?_ (Below.refl _ _);exact rfl
      ·intro w L f hC hLi hLd hLn ⟨a,b,_⟩;change _=_ at a b;refine au.live rfl ?_;obtain⟨ev,ec,ef⟩:=evs f;refine aj ?_ (hC) (Below.refl _ _) rfl;go_simp
      ·intro w L f hC hLi hLd hLn ⟨d,_⟩;refine au.live rfl ?_;exact aj (v:=f 40) rfl (hC) (Below.refl _ _) d
      iterate 5 (intro w L f hC hLi hLd hLn ⟨_,d,_⟩;refine aI.dead (show ak _ (f 41)=false by rw[show f 41=_ from d];rfl) (hC) ?_ (Below.refl _ _);exact rfl)
      ·intro w L f hC hLi hLd hLn ⟨_,_,d,_⟩;refine aI.dead (show ak _ (f 41)=false by rw[show f 41=_ from d];rfl) (hC) ?_ (Below.refl _ _);exact rfl
      ·intro w L f hC hLi hLd hLn ⟨a,b,_⟩;change _=_ at a b;refine au.live rfl ?_;obtain⟨ev,ec,ef⟩:=evs f;refine aj ?_ (hC) (Below.refl _ _) rfl;go_simp
      ·intro w L f hC hLi hLd hLn ⟨d,_⟩;refine au.live rfl ?_;exact aj (v:=f 48) rfl (hC) (Below.refl _ _) d
     intro x w' hC hV
     have e4:=hV 30 _ rfl rfl;have hC':=Za (hBd.out.trans (hC.mono hBd.out.size));clear hV hC;simp only[framed];rw[e4];go_wp2_with fail;go_ret;exact⟨by rw[hR3.out];rfl,hC'.out⟩
    |true=>
     rw[hB2]at cxb;have cb:=cxb;clear cxb
     cases hP:fZ F.K p with
     |false=>
      have hR3:Hid (R=false):=Za (by rw[hR2.out,hA,hB2,hP];simp);rw[hP]at cxp;have cp:=cxp;clear hA hB2 hP cxp;refine aC ((eqv (.agg #[.string (ay F.nm),.slice F.A1 F.ps.length F.c1,.slice F.A2 F.ls.length F.c2,.slice F.A3 F.n3 F.c3]))::(eqv (.pointer (some ⟨gx,0,none⟩)))::(eqv (.pointer (some ⟨gx,0,none⟩)))::(eqv (.pointer (some ⟨gx,1,none⟩)))::(eqv (.pointer pa))::(eqv (.bool true))::(eqv (.bool true))::(eqv (.agg #[.string (ay F.nm),.slice F.A1 F.ps.length F.c1,.slice F.A2 F.ls.length F.c2,.slice F.A3 F.n3 F.c3]))::(eqv (.pointer (some ⟨gx,0,none⟩)))::(eqv (.pointer (some ⟨gx,0,none⟩)))::(eqv (.pointer (some ⟨gx,2,none⟩)))::(eqv (.pointer pb))::(eqv (.bool true))::(eqv (.bool true))::(eqv (.bool true))::(eqv (.agg #[.string (ay F.nm),.slice F.A1 F.ps.length F.c1,.slice F.A2 F.ls.length F.c2,.slice F.A3 F.n3 F.c3]))::(eqv (.pointer (some ⟨gx,0,none⟩)))::(eqv (.pointer (some ⟨gx,0,none⟩)))::(eqv (.pointer (some ⟨gx,3,none⟩)))::(eqv (.pointer pp))::(eqv (.bool false))::(eqv (.bool false))::(eqv (.bool false))::eud::eud::eud::eud::eud::eud::(eqv (.bool false))::(eqv (.bool false))::[])
       ((rn1 2)::(rn1 1)::(rd1 20 1)::(rd1 21 2)::(rd1 22 3)::⟨[(19,some 0),(23,some 4)],0,[]⟩::(rd1 24 5)::(rq1 2 25 6)::(rq1 1 25 6)::(rg1 27 8 25 6)::(rg1 28 9 25 6)::(rg1 29 10 25 6)::⟨[(26,some 7),(30,some 11),(25,some 6)],25,[]⟩::⟨[(25,some 6),(31,some 12)],0,[]⟩::(rd1 32 13)::(rq1 2 33 14)::(rq1 1 33 14)::(rg1 35 16 33 14)::(rg1 36 17 33 14)::(rg1 37 18 33 14)::⟨[(34,some 15),(38,some 19),(33,some 14)],33,[]⟩::⟨[(33,some 14),(39,some 20)],0,[]⟩::(rd1 40 21)::(rq1 2 41 22)::(rq1 1 41 22)::(rg1 43 24 41 22)::(rg1 44 25 41 22)::(rg1 45 26 41 22)::⟨[(42,some 23),(46,some 27),(41,some 22)],41,[]⟩::⟨[(41,some 22),(47,some 28)],0,[]⟩::(rd1 48 29)::[])
       (no::no::no::no::so 30::no::no::no::no::no::no::no::no::no::no::no::no::no::no::so 0::so 1::so 2::so 3::so 4::so 5::so 6::so 7::so 8::so 9::so 10::so 11::so 12::so 13::so 14::so 15::so 16::so 17::so 18::so 19::so 20::so 21::so 22::so 23::so 24::so 25::so 26::so 27::so 28::so 29::[])
       (fun _ w'=>Below wW.heap.size wW w') (fun _ w w'=>Below w.heap.size w w') ?mixK5condsP ?okK5condsP ?tabK5condsP ?frK5condsP ?inK5condsP ?keptK5condsP ?startK5condsP ?eachK5condsP ?finK5condsP
      case mixK5condsP|okK5condsP|tabK5condsP|frK5condsP=>kernel_rfl
      case inK5condsP=>rfl
      case keptK5condsP=>((repeat refine⟨fun _ _ _ _ _ _ _ _ _ _ _ h=>h,?_⟩);exact trivial)
      case startK5condsP=>exact hgo.out
      case eachK5condsP=>
       repeat' first|exact trivial|refine And.intro ?_ ?_
       ·intro w L f hC hLi hLd hLn ⟨a,_⟩;change _=_ at a;refine au.live rfl ?_;obtain⟨p0,p1,p2,p3,pl,q1,q2,q3,q4,qx⟩:=hfc.out w hC;obtain⟨ev,ec,ef⟩:=evs f;refine aj ?_ hC (Below.refl _ _) rfl;go_simp
       ·intro w L f hC hLi hLd hLn ⟨d,_⟩;refine au.live rfl ?_;exact aj (v:=f 1) rfl (hC) (Below.refl _ _) d
       iterate 3 (intro w L f hC hLi hLd hLn ⟨a,_⟩;change _=_ at a;refine au.live rfl ?_;obtain⟨p0,p1,p2,p3,pl,q1,q2,q3,q4,qx⟩:=hfc.out w hC;obtain⟨ev,ec,ef⟩:=evs f;refine aj ?_ hC (Below.refl _ _) rfl;go_simp)
       ·intro w L f hC hLi hLd hLn ⟨a,b,_⟩;change _=_ at a b;refine au.live rfl ?_;obtain⟨ev,ec,ef⟩:=evs f;refine aF (f:=144) (args:= #[.agg #[.string (ay F.nm),.slice F.A1 F.ps.length F.c1,.slice F.A2 F.ls.length F.c2,.slice F.A3 F.n3 F.c3],.pointer pa]) (w:=w) (by go_simp) (ca.out w hC) ?_;rintro e w1 ⟨he,hB⟩;exact⟨_,he,hC.trans (hB.mono hC.size),hB,rfl⟩
       ·intro w L f hC hLi hLd hLn ⟨d,_⟩;refine au.live rfl ?_;exact aj (v:=f 24) rfl (hC) (Below.refl _ _) d
       ·intro w L f hC hLi hLd hLn ⟨a,d25,_⟩;change _=_ at a d25;refine au.live (show ak _ (f 25)=true by rw[d25];rfl) ?_;obtain⟨p0,p1,p2,p3,pl,q1,q2,q3,q4,qx⟩:=hfc.out w hC;obtain⟨ev,ec,ef⟩:=evs f;refine aj ?_ hC (Below.refl _ _) rfl;go_simp
       ·intro w L f hC hLi hLd hLn ⟨d1,d25,_⟩;change _=_ at d1 d25;refine au.live (show ak _ (f 25)=true by rw[d25];rfl) ?_;exact aj (v:=f 1) rfl (hC) (Below.refl _ _) d1
       iterate 3 (intro w L f hC hLi hLd hLn ⟨a,d25,_⟩;change _=_ at a d25;refine au.live (show ak _ (f 25)=true by rw[d25];rfl) ?_;obtain⟨p0,p1,p2,p3,pl,q1,q2,q3,q4,qx⟩:=hfc.out w hC;obtain⟨ev,ec,ef⟩:=evs f;refine aj ?_ hC (Below.refl _ _) rfl;go_simp)
       ·intro w L f hC hLi hLd hLn ⟨a,b,d25,_⟩;change _=_ at a b d25;refine au.live (show ak _ (f 25)=true by rw[d25];rfl) ?_;obtain⟨ev,ec,ef⟩:=evs f;refine aF (f:=144) (args:= #[.agg #[.string (ay F.nm),.slice F.A1 F.ps.length F.c1,.slice F.A2 F.ls.length F.c2,.slice F.A3 F.n3 F.c3],.pointer pb]) (w:=w) (by go_simp) (cb.out w hC) ?_;rintro e w1 ⟨he,hB⟩;exact⟨_,he,hC.trans (hB.mono hC.size),hB,rfl⟩
       ·intro w L f hC hLi hLd hLn ⟨a,b,_⟩;change _=_ at a b;refine au.live rfl ?_;obtain⟨ev,ec,ef⟩:=evs f;refine aj ?_ (hC) (Below.refl _ _) rfl;go_simp
       ·intro w L f hC hLi hLd hLn ⟨d,_⟩;refine au.live rfl ?_;exact aj (v:=f 32) rfl (hC) (Below.refl _ _) d
       ·intro w L f hC hLi hLd hLn ⟨a,d33,_⟩;change _=_ at a d33;refine au.live (show ak _ (f 33)=true by rw[d33];rfl) ?_;obtain⟨p0,p1,p2,p3,pl,q1,q2,q3,q4,qx⟩:=hfc.out w hC;obtain⟨ev,ec,ef⟩:=evs f;refine aj ?_ hC (Below.refl _ _) rfl;go_simp
       ·intro w L f hC hLi hLd hLn ⟨d1,d33,_⟩;change _=_ at d1 d33;refine au.live (show ak _ (f 33)=true by rw[d33];rfl) ?_;exact aj (v:=f 1) rfl (hC) (Below.refl _ _) d1
       iterate 3 (intro w L f hC hLi hLd hLn ⟨a,d33,_⟩;change _=_ at a d33;refine au.live (show ak _ (f 33)=true by rw[d33];rfl) ?_;obtain⟨p0,p1,p2,p3,pl,q1,q2,q3,q4,qx⟩:=hfc.out w hC;obtain⟨ev,ec,ef⟩:=evs f;refine aj ?_ hC (Below.refl _ _) rfl;go_simp)
       ·intro w L f hC hLi hLd hLn ⟨a,b,d33,_⟩;change _=_ at a b d33;refine au.live (show ak _ (f 33)=true by rw[d33];rfl) ?_;obtain⟨ev,ec,ef⟩:=evs f;refine aF (f:=145) (args:= #[.agg #[.string (ay F.nm),.slice F.A1 F.ps.length F.c1,.slice F.A2 F.ls.length F.c2,.slice F.A3 F.n3 F.c3],.pointer pp]) (w:=w) (by go_simp) (cp.out w hC) ?_;rintro e w1 ⟨he,hB⟩;exact⟨_,he,hC.trans (hB.mono hC.size),hB,rfl⟩
       ·intro w L f hC hLi hLd hLn ⟨a,b,_⟩;change _=_ at a b;refine au.live rfl ?_;obtain⟨ev,ec,ef⟩:=evs f;refine aj ?_ (hC) (Below.refl _ _) rfl;go_simp
       ·intro w L f hC hLi hLd hLn ⟨d,_⟩;refine au.live rfl ?_;exact aj (v:=f 40) rfl (hC) (Below.refl _ _) d
       iterate 5 (intro w L f hC hLi hLd hLn ⟨_,d,_⟩;refine aI.dead (show ak _ (f 41)=false by rw[show f 41=_ from d];rfl) (hC) ?_ (Below.refl _ _);exact rfl)
       ·intro w L f hC hLi hLd hLn ⟨_,_,d,_⟩;refine aI.dead (show ak _ (f 41)=false by rw[show f 41=_ from d];rfl) (hC) ?_ (Below.refl _ _);exact rfl
       ·intro w L f hC hLi hLd hLn ⟨a,b,_⟩;change _=_ at a b;refine au.live rfl ?_;obtain⟨ev,ec,ef⟩:=evs f;refine aj ?_ (hC) (Below.refl _ _) rfl;go_simp
       ·intro w L f hC hLi hLd hLn ⟨d,_⟩;refine au.live rfl ?_;exact aj (v:=f 48) rfl (hC) (Below.refl _ _) d
      intro x w' hC hV
      have e4:=hV 30 _ rfl rfl;have hC':=Za (hBd.out.trans (hC.mono hBd.out.size));clear hV hC;simp only[framed];rw[e4];go_wp2_with fail;go_ret;exact⟨by rw[hR3.out];rfl,hC'.out⟩
     |true=>
      rw[hP]at cxp;have cp:=cxp;clear cxp;have hR3:Hid (R=fZ F.K q):=Za (by rw[hR2.out,hA,hB2,hP];rfl);clear hA hB2 hP
      refine aC ((eqv (.agg #[.string (ay F.nm),.slice F.A1 F.ps.length F.c1,.slice F.A2 F.ls.length F.c2,.slice F.A3 F.n3 F.c3]))::(eqv (.pointer (some ⟨gx,0,none⟩)))::(eqv (.pointer (some ⟨gx,0,none⟩)))::(eqv (.pointer (some ⟨gx,1,none⟩)))::(eqv (.pointer pa))::(eqv (.bool true))::(eqv (.bool true))::(eqv (.agg #[.string (ay F.nm),.slice F.A1 F.ps.length F.c1,.slice F.A2 F.ls.length F.c2,.slice F.A3 F.n3 F.c3]))::(eqv (.pointer (some ⟨gx,0,none⟩)))::(eqv (.pointer (some ⟨gx,0,none⟩)))::(eqv (.pointer (some ⟨gx,2,none⟩)))::(eqv (.pointer pb))::(eqv (.bool true))::(eqv (.bool true))::(eqv (.bool true))::(eqv (.agg #[.string (ay F.nm),.slice F.A1 F.ps.length F.c1,.slice F.A2 F.ls.length F.c2,.slice F.A3 F.n3 F.c3]))::(eqv (.pointer (some ⟨gx,0,none⟩)))::(eqv (.pointer (some ⟨gx,0,none⟩)))::(eqv (.pointer (some ⟨gx,3,none⟩)))::(eqv (.pointer pp))::(eqv (.bool true))::(eqv (.bool true))::(eqv (.bool true))::(eqv (.agg #[.string (ay F.nm),.slice F.A1 F.ps.length F.c1,.slice F.A2 F.ls.length F.c2,.slice F.A3 F.n3 F.c3]))::(eqv (.pointer (some ⟨gx,0,none⟩)))::(eqv (.pointer (some ⟨gx,0,none⟩)))::(eqv (.pointer (some ⟨gx,4,none⟩)))::(eqv (.pointer pq))::(eqv (.bool (fZ F.K q)))::(eqv (.bool (fZ F.K q)))::(eqv (.bool (fZ F.K q)))::[])
       ((rn1 2)::(rn1 1)::(rd1 20 1)::(rd1 21 2)::(rd1 22 3)::⟨[(19,some 0),(23,some 4)],0,[]⟩::(rd1 24 5)::(rq1 2 25 6)::(rq1 1 25 6)::(rg1 27 8 25 6)::(rg1 28 9 25 6)::(rg1 29 10 25 6)::⟨[(26,some 7),(30,some 11),(25,some 6)],25,[]⟩::⟨[(25,some 6),(31,some 12)],0,[]⟩::(rd1 32 13)::(rq1 2 33 14)::(rq1 1 33 14)::(rg1 35 16 33 14)::(rg1 36 17 33 14)::(rg1 37 18 33 14)::⟨[(34,some 15),(38,some 19),(33,some 14)],33,[]⟩::⟨[(33,some 14),(39,some 20)],0,[]⟩::(rd1 40 21)::(rq1 2 41 22)::(rq1 1 41 22)::(rg1 43 24 41 22)::(rg1 44 25 41 22)::(rg1 45 26 41 22)::⟨[(42,some 23),(46,some 27),(41,some 22)],41,[]⟩::⟨[(41,some 22),(47,some 28)],0,[]⟩::(rd1 48 29)::[])
       (no::no::no::no::so 30::no::no::no::no::no::no::no::no::no::no::no::no::no::no::so 0::so 1::so 2::so 3::so 4::so 5::so 6::so 7::so 8::so 9::so 10::so 11::so 12::so 13::so 14::so 15::so 16::so 17::so 18::so 19::so 20::so 21::so 22::so 23::so 24::so 25::so 26::so 27::so 28::so 29::[])
       (fun _ w'=>Below wW.heap.size wW w') (fun _ w w'=>Below w.heap.size w w') ?mixK5condsQ ?okK5condsQ ?tabK5condsQ ?frK5condsQ ?inK5condsQ ?keptK5condsQ ?startK5condsQ ?eachK5condsQ ?finK5condsQ
      case mixK5condsQ|okK5condsQ|tabK5condsQ|frK5condsQ=>kernel_rfl
      case inK5condsQ=>rfl
      case keptK5condsQ=>((repeat refine⟨fun _ _ _ _ _ _ _ _ _ _ _ h=>h,?_⟩);exact trivial)
      case startK5condsQ=>exact hgo.out
      case eachK5condsQ=>
       repeat' first|exact trivial|refine And.intro ?_ ?_
       ·intro w L f hC hLi hLd hLn ⟨a,_⟩;change _=_ at a;refine au.live rfl ?_;obtain⟨p0,p1,p2,p3,pl,q1,q2,q3,q4,qx⟩:=hfc.out w hC;obtain⟨ev,ec,ef⟩:=evs f;refine aj ?_ hC (Below.refl _ _) rfl;go_simp
       ·intro w L f hC hLi hLd hLn ⟨d,_⟩;refine au.live rfl ?_;exact aj (v:=f 1) rfl (hC) (Below.refl _ _) d
       iterate 3 (intro w L f hC hLi hLd hLn ⟨a,_⟩;change _=_ at a;refine au.live rfl ?_;obtain⟨p0,p1,p2,p3,pl,q1,q2,q3,q4,qx⟩:=hfc.out w hC;obtain⟨ev,ec,ef⟩:=evs f;refine aj ?_ hC (Below.refl _ _) rfl;go_simp)
       ·intro w L f hC hLi hLd hLn ⟨a,b,_⟩;change _=_ at a b;refine au.live rfl ?_;obtain⟨ev,ec,ef⟩:=evs f;refine aF (f:=144) (args:= #[.agg #[.string (ay F.nm),.slice F.A1 F.ps.length F.c1,.slice F.A2 F.ls.length F.c2,.slice F.A3 F.n3 F.c3],.pointer pa]) (w:=w) (by go_simp) (ca.out w hC) ?_;rintro e w1 ⟨he,hB⟩;exact⟨_,he,hC.trans (hB.mono hC.size),hB,rfl⟩
       ·intro w L f hC hLi hLd hLn ⟨d,_⟩;refine au.live rfl ?_;exact aj (v:=f 24) rfl (hC) (Below.refl _ _) d
       ·intro w L f hC hLi hLd hLn ⟨a,d25,_⟩;change _=_ at a d25;refine au.live (show ak _ (f 25)=true by rw[d25];rfl) ?_;obtain⟨p0,p1,p2,p3,pl,q1,q2,q3,q4,qx⟩:=hfc.out w hC;obtain⟨ev,ec,ef⟩:=evs f;refine aj ?_ hC (Below.refl _ _) rfl;go_simp
       ·intro w L f hC hLi hLd hLn ⟨d1,d25,_⟩;change _=_ at d1 d25;refine au.live (show ak _ (f 25)=true by rw[d25];rfl) ?_;exact aj (v:=f 1) rfl (hC) (Below.refl _ _) d1
       iterate 3 (intro w L f hC hLi hLd hLn ⟨a,d25,_⟩;change _=_ at a d25;refine au.live (show ak _ (f 25)=true by rw[d25];rfl) ?_;obtain⟨p0,p1,p2,p3,pl,q1,q2,q3,q4,qx⟩:=hfc.out w hC;obtain⟨ev,ec,ef⟩:=evs f;refine aj ?_ hC (Below.refl _ _) rfl;go_simp)
       ·intro w L f hC hLi hLd hLn ⟨a,b,d25,_⟩;change _=_ at a b d25;refine au.live (show ak _ (f 25)=true by rw[d25];rfl) ?_;obtain⟨ev,ec,ef⟩:=evs f;refine aF (f:=144) (args:= #[.agg #[.string (ay F.nm),.slice F.A1 F.ps.length F.c1,.slice F.A2 F.ls.length F.c2,.slice F.A3 F.n3 F.c3],.pointer pb]) (w:=w) (by go_simp) (cb.out w hC) ?_;rintro e w1 ⟨he,hB⟩;exact⟨_,he,hC.trans (hB.mono hC.size),hB,rfl⟩
       ·intro w L f hC hLi hLd hLn ⟨a,b,_⟩;change _=_ at a b;refine au.live rfl ?_;obtain⟨ev,ec,ef⟩:=evs f;refine aj ?_ (hC) (Below.refl _ _) rfl;go_simp
       ·intro w L f hC hLi hLd hLn ⟨d,_⟩;refine au.live rfl ?_;exact aj (v:=f 32) rfl (hC) (Below.refl _ _) d
       ·intro w L f hC hLi hLd hLn ⟨a,d33,_⟩;change _=_ at a d33;refine au.live (show ak _ (f 33)=true by rw[d33];rfl) ?_;obtain⟨p0,p1,p2,p3,pl,q1,q2,q3,q4,qx⟩:=hfc.out w hC;obtain⟨ev,ec,ef⟩:=evs f;refine aj ?_ hC (Below.refl _ _) rfl;go_simp
       ·intro w L f hC hLi hLd hLn ⟨d1,d33,_⟩;change _=_ at d1 d33;refine au.live (show ak _ (f 33)=true by rw[d33];rfl) ?_;exact aj (v:=f 1) rfl (hC) (Below.refl _ _) d1
       iterate 3 (intro w L f hC hLi hLd hLn ⟨a,d33,_⟩;change _=_ at a d33;refine au.live (show ak _ (f 33)=true by rw[d33];rfl) ?_;obtain⟨p0,p1,p2,p3,pl,q1,q2,q3,q4,qx⟩:=hfc.out w hC;obtain⟨ev,ec,ef⟩:=evs f;refine aj ?_ hC (Below.refl _ _) rfl;go_simp)
       ·intro w L f hC hLi hLd hLn ⟨a,b,d33,_⟩;change _=_ at a b d33;refine au.live (show ak _ (f 33)=true by rw[d33];rfl) ?_;obtain⟨ev,ec,ef⟩:=evs f;refine aF (f:=145) (args:= #[.agg #[.string (ay F.nm),.slice F.A1 F.ps.length F.c1,.slice F.A2 F.ls.length F.c2,.slice F.A3 F.n3 F.c3],.pointer pp]) (w:=w) (by go_simp) (cp.out w hC) ?_;rintro e w1 ⟨he,hB⟩;exact⟨_,he,hC.trans (hB.mono hC.size),hB,rfl⟩
       ·intro w L f hC hLi hLd hLn ⟨a,b,_⟩;change _=_ at a b;refine au.live rfl ?_;obtain⟨ev,ec,ef⟩:=evs f;refine aj ?_ (hC) (Below.refl _ _) rfl;go_simp
       ·intro w L f hC hLi hLd hLn ⟨d,_⟩;refine au.live rfl ?_;exact aj (v:=f 40) rfl (hC) (Below.refl _ _) d
       ·intro w L f hC hLi hLd hLn ⟨a,d41,_⟩;change _=_ at a d41;refine au.live (show ak _ (f 41)=true by rw[d41];rfl) ?_;obtain⟨p0,p1,p2,p3,pl,q1,q2,q3,q4,qx⟩:=hfc.out w hC;obtain⟨ev,ec,ef⟩:=evs f;refine aj ?_ hC (Below.refl _ _) rfl;go_simp
       ·intro w L f hC hLi hLd hLn ⟨d1,d41,_⟩;change _=_ at d1 d41;refine au.live (show ak _ (f 41)=true by rw[d41];rfl) ?_;exact aj (v:=f 1) rfl (hC) (Below.refl _ _) d1
       iterate 3 (intro w L f hC hLi hLd hLn ⟨a,d41,_⟩;change _=_ at a d41;refine au.live (show ak _ (f 41)=true by rw[d41];rfl) ?_;obtain⟨p0,p1,p2,p3,pl,q1,q2,q3,q4,qx⟩:=hfc.out w hC;obtain⟨ev,ec,ef⟩:=evs f;refine aj ?_ hC (Below.refl _ _) rfl;go_simp)
       ·intro w L f hC hLi hLd hLn ⟨a,b,d41,_⟩;change _=_ at a b d41;refine au.live (show ak _ (f 41)=true by rw[d41];rfl) ?_;obtain⟨ev,ec,ef⟩:=evs f;refine aF (f:=145) (args:= #[.agg #[.string (ay F.nm),.slice F.A1 F.ps.length F.c1,.slice F.A2 F.ls.length F.c2,.slice F.A3 F.n3 F.c3],.pointer pq]) (w:=w) (by go_simp) (cq.out w hC) ?_;rintro e w1 ⟨he,hB⟩;exact⟨_,he,hC.trans (hB.mono hC.size),hB,rfl⟩
       ·intro w L f hC hLi hLd hLn ⟨a,b,_⟩;change _=_ at a b;refine au.live rfl ?_;obtain⟨ev,ec,ef⟩:=evs f;refine aj ?_ (hC) (Below.refl _ _) rfl;go_simp
       ·intro w L f hC hLi hLd hLn ⟨d,_⟩;refine au.live rfl ?_;exact aj (v:=f 48) rfl (hC) (Below.refl _ _) d
      intro x w' hC hV
      have e4:=hV 30 _ rfl rfl;have hC':=Za (hBd.out.trans (hC.mono hBd.out.size));clear hV hC;simp only[framed];rw[e4];go_wp2_with fail;go_ret;exact⟨by rw[hR3.out];rfl,hC'.out⟩
theorem m_ (F:FnV) (e:Ex) (w:World) (v:Value) (hF:F.ok w) (h:aJ w Evr e v):Calls Tryz.prog 143 #[.agg F.cells,v] w fun e' w'=>e'= .returned (.bool (dN F.K e))∧Below w.heap.size w w':=by
 have hR:=RfB.new hF;have hbn:=aA w (.cells F.cells 26);obtain⟨w1,hw1⟩:∃y,y=w.alloc (.cells F.cells 26):=⟨_,rfl⟩;obtain⟨g,hg⟩:∃y,y=w.heap.size:=⟨_,rfl⟩;rw[←hw1,←hg]at hR;rw[←hw1]at hbn;have hx1:=Za (h.below hbn);obtain⟨wW,hwd⟩:∃y,y=w1.drew:=⟨_,rfl⟩
 have hbd:Below w1.heap.size w1 wW:=by rw[hwd];exact(Below.refl _ w1).drew
 have hRd:=Za (hR.below hbd);have hxd:=Za (hx1.out.below hbd);have hBd:=Za hRd.out.bl;have hgo:Hid (Below wW.heap.size wW w1.drew):=Za (by rw[←hwd];exact Below.refl _ _);have hfo:=Za hw1.symm;have hg':=Za hg.symm;unfold FnV.cells at hfo;clear hR hbn hw1 hg hx1 hwd hbd hF h;unfold FnV.cells;obtain⟨R,hRR⟩:∃R,R=dN F.K e:=⟨_,rfl⟩;rw[←hRR];have og:=Za hRR;clear hRR
 cases e with
 |nil=>
  obtain rfl:v= .pointer none:=hxd.out;have hR3:Hid (R=false):=Za (by rw[og.out];rfl);have hfc:Hid (∀w:World,Below wW.heap.size wW w→w.cell? ⟨g,0,none⟩=some (.string (ay F.nm))∧w.cell? ⟨g,1,none⟩=some (.slice F.A1 F.ps.length F.c1)∧w.cell? ⟨g,2,none⟩=some (.slice F.A2 F.ls.length F.c2)∧w.cell? ⟨g,3,none⟩=some (.slice F.A3 F.n3 F.c3)∧g<w.heap.size):=Za fun w hb=>(hRd.out.below hb).facts;clear hRd hxd og;go_enter Tryz.func143,Tryz.ntmps143;go_upto_region 1 with(fail);rw[hfo.out,hg'.out];clear hfo hg';refine aC ((eqv (.pointer none))::(eqv (.bool false))::(eqv (.bool false))::eud::eud::eud::eud::eud::(eqv (.bool false))::(eqv (.bool false))::eud::eud::eud::eud::eud::eud::eud::(eqv (.bool false))::(eqv (.bool false))::[])
   ((rn1 1)::(rd1 5 0)::(rd1 6 1)::(rq1 1 7 2)::(rg1 8 3 7 2)::(rg1 9 4 7 2)::(rg1 10 5 7 2)::(rg1 11 6 7 2)::⟨[(7,some 2),(12,some 7)],0,[]⟩::(rd1 13 8)::(rq1 2 14 9)::(rq1 1 14 9)::(rg1 16 11 14 9)::(rg1 17 12 14 9)::(rg1 18 13 14 9)::⟨[(15,some 10),(19,some 14),(14,some 9)],14,[]⟩::(rg1 20 15 14 9)::⟨[(14,some 9),(21,some 16)],0,[]⟩::(rd1 22 17)::[])
   (no::no::no::no::so 18::so 0::so 1::so 2::so 3::so 4::so 5::so 6::so 7::so 8::so 9::so 10::so 11::so 12::so 13::so 14::so 15::so 16::so 17::[])
   (fun _ w'=>Below wW.heap.size wW w') (fun _ w w'=>Below w.heap.size w w') ?mixK1pointernil ?okK1pointernil ?tabK1pointernil ?frK1pointernil ?inK1pointernil ?keptK1pointernil ?startK1pointernil ?eachK1pointernil ?finK1pointernil
  case mixK1pointernil|okK1pointernil|tabK1pointernil|frK1pointernil=>kernel_rfl
  case inK1pointernil=>rfl
  case keptK1pointernil=>((repeat refine⟨fun _ _ _ _ _ _ _ _ _ _ _ h=>h,?_⟩);exact trivial)
  case startK1pointernil=>exact hgo.out
  case eachK1pointernil=>
   repeat' first|exact trivial|refine And.intro ?_ ?_
   ·intro w L f hC hLi hLd hLn ⟨d,_⟩;refine au.live rfl ?_;exact aj (v:=f 1) rfl (hC) (Below.refl _ _) d
   ·intro w L f hC hLi hLd hLn ⟨a,_⟩;change _=_ at a;refine au.live rfl ?_;obtain⟨ev,ec,ef⟩:=evs f;refine aj ?_ (hC) (Below.refl _ _) rfl;go_simp
   ·intro w L f hC hLi hLd hLn ⟨d,_⟩;refine au.live rfl ?_;exact aj (v:=f 6) rfl (hC) (Below.refl _ _) d
   iterate 5 (intro w L f hC hLi hLd hLn ⟨_,d,_⟩;refine aI.dead (show ak _ (f 7)=false by rw[show f 7=_ from d];rfl) (hC) ?_ (Below.refl _ _);exact rfl)
   ·intro w L f hC hLi hLd hLn ⟨a,b,_⟩;change _=_ at a b;refine au.live rfl ?_;obtain⟨ev,ec,ef⟩:=evs f;refine aj ?_ (hC) (Below.refl _ _) rfl;go_simp
   ·intro w L f hC hLi hLd hLn ⟨d,_⟩;refine au.live rfl ?_;exact aj (v:=f 13) rfl (hC) (Below.refl _ _) d
   iterate 5 (intro w L f hC hLi hLd hLn ⟨_,d,_⟩;refine aI.dead (show ak _ (f 14)=false by rw[show f 14=_ from d];rfl) (hC) ?_ (Below.refl _ _);exact rfl)
   ·intro w L f hC hLi hLd hLn ⟨_,_,d,_⟩;refine aI.dead (show ak _ (f 14)=false by rw[show f 14=_ from d];rfl) (hC) ?_ (Below.refl _ _);exact rfl
   ·intro w L f hC hLi hLd hLn ⟨_,d,_⟩;refine aI.dead (show ak _ (f 14)=false by rw[show f 14=_ from d];rfl) (hC) ?_ (Below.refl _ _);exact rfl
   ·intro w L f hC hLi hLd hLn ⟨a,b,_⟩;change _=_ at a b;refine au.live rfl ?_;obtain⟨ev,ec,ef⟩:=evs f;refine aj ?_ (hC) (Below.refl _ _) rfl;go_simp
   ·intro w L f hC hLi hLd hLn ⟨d,_⟩;refine au.live rfl ?_;exact aj (v:=f 22) rfl (hC) (Below.refl _ _) d
  intro x w' hC hV
  have e4:=hV 18 _ rfl rfl;have hC':=Za (hBd.out.trans (hC.mono hBd.out.size));clear hV hC;simp only[framed];rw[e4];go_wp2_with fail;go_ret;exact⟨by rw[hR3.out];rfl,hC'.out⟩
 |mk k n nm a b=>
  obtain⟨gx,va,vb,rfl,-,hn,hk,hH,-,-⟩:=hxd.out;by_cases hk1:k=1
  ·subst hk1;have hR3:Hid (R=(F.K nm==2)):=Za (by rw[og.out];unfold dN;simp)
   have hfc:Hid (∀w:World,Below wW.heap.size wW w→w.cell? ⟨g,0,none⟩=some (.string (ay F.nm))∧w.cell? ⟨g,1,none⟩=some (.slice F.A1 F.ps.length F.c1)∧w.cell? ⟨g,2,none⟩=some (.slice F.A2 F.ls.length F.c2)∧w.cell? ⟨g,3,none⟩=some (.slice F.A3 F.n3 F.c3)∧g<w.heap.size∧w.cell? ⟨gx,0,none⟩=some (.int .i64 1)∧w.cell? ⟨gx,2,none⟩=some (.string (ay nm))∧gx<w.heap.size):=Za fun w hb=>by obtain⟨x0,x1,x2,x3,xl⟩:=(hRd.out.below hb).facts;have hx:=hH.below hb hH.lt;exact⟨x0,x1,x2,x3,xl,hx.cell 0,hx.cell 2,hx.lt⟩
   have ck:=Za fun(w:World) (hb:Below wW.heap.size wW w)=>fE F w (hRd.out.ok.below hb) nm;unfold FnV.cells at ck;clear hRd hxd og hH;go_enter Tryz.func143,Tryz.ntmps143;go_upto_region 1 with(fail);rw[hfo.out,hg'.out];clear hfo hg';refine aC ((eqv (.pointer (some ⟨gx,0,none⟩)))::(eqv (.bool true))::(eqv (.bool true))::(eqv (.pointer (some ⟨gx,0,none⟩)))::(eqv (.pointer (some ⟨gx,0,none⟩)))::(eqv (.pointer (some ⟨gx,0,none⟩)))::(eqv (.int .i64 1))::(eqv (.bool true))::(eqv (.bool true))::(eqv (.bool true))::(eqv (.agg #[.string (ay F.nm),.slice F.A1 F.ps.length F.c1,.slice F.A2 F.ls.length F.c2,.slice F.A3 F.n3 F.c3]))::(eqv (.pointer (some ⟨gx,0,none⟩)))::(eqv (.pointer (some ⟨gx,0,none⟩)))::(eqv (.pointer (some ⟨gx,2,none⟩)))::(eqv (.string (ay nm)))::(eqv (.int .i64 (F.K nm)))::(eqv (.bool (((F.K nm:Nat):Int)==2)))::(eqv (.bool (((F.K nm:Nat):Int)==2)))::(eqv (.bool (((F.K nm:Nat):Int)==2)))::[])
    ((rn1 1)::(rd1 5 0)::(rd1 6 1)::(rq1 1 7 2)::(rg1 8 3 7 2)::(rg1 9 4 7 2)::(rg1 10 5 7 2)::(rg1 11 6 7 2)::⟨[(7,some 2),(12,some 7)],0,[]⟩::(rd1 13 8)::(rq1 2 14 9)::(rq1 1 14 9)::(rg1 16 11 14 9)::(rg1 17 12 14 9)::(rg1 18 13 14 9)::⟨[(15,some 10),(19,some 14),(14,some 9)],14,[]⟩::(rg1 20 15 14 9)::⟨[(14,some 9),(21,some 16)],0,[]⟩::(rd1 22 17)::[])
    (no::no::no::no::so 18::so 0::so 1::so 2::so 3::so 4::so 5::so 6::so 7::so 8::so 9::so 10::so 11::so 12::so 13::so 14::so 15::so 16::so 17::[])
    (fun _ w'=>Below wW.heap.size wW w') (fun _ w w'=>Below w.heap.size w w') ?mixK1pointeryes ?okK1pointeryes ?tabK1pointeryes ?frK1pointeryes ?inK1pointeryes ?keptK1pointeryes ?startK1pointeryes ?eachK1pointeryes ?finK1pointeryes
   case mixK1pointeryes|okK1pointeryes|tabK1pointeryes|frK1pointeryes=>kernel_rfl
   case inK1pointeryes=>rfl
   case keptK1pointeryes=>((repeat refine⟨fun _ _ _ _ _ _ _ _ _ _ _ h=>h,?_⟩);exact trivial)
   case startK1pointeryes=>exact hgo.out
   case eachK1pointeryes=>
    repeat' first|exact trivial|refine And.intro ?_ ?_
    ·intro w L f hC hLi hLd hLn ⟨d,_⟩;refine au.live rfl ?_;exact aj (v:=f 1) rfl (hC) (Below.refl _ _) d
    ·intro w L f hC hLi hLd hLn ⟨a,_⟩;change _=_ at a;refine au.live rfl ?_;obtain⟨ev,ec,ef⟩:=evs f;refine aj ?_ (hC) (Below.refl _ _) rfl;go_simp
    ·intro w L f hC hLi hLd hLn ⟨d,_⟩;refine au.live rfl ?_;exact aj (v:=f 6) rfl (hC) (Below.refl _ _) d
    ·intro w L f hC hLi hLd hLn ⟨d1,d7,_⟩;change _=_ at d1 d7;refine au.live (show ak _ (f 7)=true by rw[d7];rfl) ?_;exact aj (v:=f 1) rfl (hC) (Below.refl _ _) d1
    iterate 3 (intro w L f hC hLi hLd hLn ⟨a,d7,_⟩;change _=_ at a d7;refine au.live (show ak _ (f 7)=true by rw[d7];rfl) ?_;obtain⟨p0,p1,p2,p3,pl,q0,q2,qx⟩:=hfc.out w hC;obtain⟨ev,ec,ef⟩:=evs f;refine aj ?_ hC (Below.refl _ _) rfl;go_simp)
    ·intro w L f hC hLi hLd hLn ⟨a,d7,_⟩;change _=_ at a d7;refine au.live (show ak _ (f 7)=true by rw[d7];rfl) ?_;obtain⟨ev,ec,ef⟩:=evs f;refine aj ?_ (hC) (Below.refl _ _) rfl;go_simp
    ·intro w L f hC hLi hLd hLn ⟨a,b,_⟩;change _=_ at a b;refine au.live rfl ?_;obtain⟨ev,ec,ef⟩:=evs f;refine aj ?_ (hC) (Below.refl _ _) rfl;go_simp
    ·intro w L f hC hLi hLd hLn ⟨d,_⟩;refine au.live rfl ?_;exact aj (v:=f 13) rfl (hC) (Below.refl _ _) d
    ·intro w L f hC hLi hLd hLn ⟨a,d14,_⟩;change _=_ at a d14;refine au.live (show ak _ (f 14)=true by rw[d14];rfl) ?_;obtain⟨p0,p1,p2,p3,pl,q0,q2,qx⟩:=hfc.out w hC;obtain⟨ev,ec,ef⟩:=evs f;refine aj ?_ hC (Below.refl _ _) rfl;go_simp
    ·intro w L f hC hLi hLd hLn ⟨d1,d14,_⟩;change _=_ at d1 d14;refine au.live (show ak _ (f 14)=true by rw[d14];rfl) ?_;exact aj (v:=f 1) rfl (hC) (Below.refl _ _) d1
    iterate 3 (intro w L f hC hLi hLd hLn ⟨a,d14,_⟩;change _=_ at a d14;refine au.live (show ak _ (f 14)=true by rw[d14];rfl) ?_;obtain⟨p0,p1,p2,p3,pl,q0,q2,qx⟩:=hfc.out w hC;obtain⟨ev,ec,ef⟩:=evs f;refine aj ?_ hC (Below.refl _ _) rfl;go_simp)
    ·intro w L f hC hLi hLd hLn ⟨a,b,d14,_⟩;change _=_ at a b d14;refine au.live (show ak _ (f 14)=true by rw[d14];rfl) ?_;obtain⟨ev,ec,ef⟩:=evs f;refine aF (f:=142) (args:= #[.agg #[.string (ay F.nm),.slice F.A1 F.ps.length F.c1,.slice F.A2 F.ls.length F.c2,.slice F.A3 F.n3 F.c3],.string (ay nm)]) (w:=w) (by go_simp) (ck.out w hC) ?_;rintro e w1 ⟨he,hB⟩;exact⟨_,he,hC.trans (hB.mono hC.size),hB,rfl⟩
    ·intro w L f hC hLi hLd hLn ⟨a,d14,_⟩;change _=_ at a d14;refine au.live (show ak _ (f 14)=true by rw[d14];rfl) ?_;obtain⟨ev,ec,ef⟩:=evs f;refine aj ?_ (hC) (Below.refl _ _) rfl;go_simp
    ·intro w L f hC hLi hLd hLn ⟨a,b,_⟩;change _=_ at a b;refine au.live rfl ?_;obtain⟨ev,ec,ef⟩:=evs f;refine aj ?_ (hC) (Below.refl _ _) rfl;go_simp
    ·intro w L f hC hLi hLd hLn ⟨d,_⟩;refine au.live rfl ?_;exact aj (v:=f 22) rfl (hC) (Below.refl _ _) d
   intro x w' hC hV
   have e4:=hV 18 _ rfl rfl;have hC':=Za (hBd.out.trans (hC.mono hBd.out.size));clear hV hC;simp only[framed];rw[e4];go_wp2_with fail;go_ret;refine⟨?_,hC'.out⟩;rw[hR3.out];exact congrArg (fun b=>Ending.returned (.bool b)) (kH (F.K nm) 2)
  ·have hR3:Hid (R=false):=Za (by rw[og.out];unfold dN;simp[hk1])
   have hk2:((k:Int)==1)=false:=by simp;omega
   have hfc:Hid (∀w:World,Below wW.heap.size wW w→w.cell? ⟨g,0,none⟩=some (.string (ay F.nm))∧w.cell? ⟨g,1,none⟩=some (.slice F.A1 F.ps.length F.c1)∧w.cell? ⟨g,2,none⟩=some (.slice F.A2 F.ls.length F.c2)∧w.cell? ⟨g,3,none⟩=some (.slice F.A3 F.n3 F.c3)∧g<w.heap.size∧w.cell? ⟨gx,0,none⟩=some (.int .i64 k)∧w.cell? ⟨gx,2,none⟩=some (.string (ay nm))∧gx<w.heap.size):=Za fun w hb=>by obtain⟨x0,x1,x2,x3,xl⟩:=(hRd.out.below hb).facts;have hx:=hH.below hb hH.lt;exact⟨x0,x1,x2,x3,xl,hx.cell 0,hx.cell 2,hx.lt⟩
   clear hRd hxd og hH hk1;go_enter Tryz.func143,Tryz.ntmps143;go_upto_region 1 with(fail);rw[hfo.out,hg'.out];clear hfo hg';refine aC ((eqv (.pointer (some ⟨gx,0,none⟩)))::(eqv (.bool true))::(eqv (.bool true))::(eqv (.pointer (some ⟨gx,0,none⟩)))::(eqv (.pointer (some ⟨gx,0,none⟩)))::(eqv (.pointer (some ⟨gx,0,none⟩)))::(eqv (.int .i64 k))::(eqv (.bool false))::(eqv (.bool false))::(eqv (.bool false))::eud::eud::eud::eud::eud::eud::eud::(eqv (.bool false))::(eqv (.bool false))::[])
    ((rn1 1)::(rd1 5 0)::(rd1 6 1)::(rq1 1 7 2)::(rg1 8 3 7 2)::(rg1 9 4 7 2)::(rg1 10 5 7 2)::(rg1 11 6 7 2)::⟨[(7,some 2),(12,some 7)],0,[]⟩::(rd1 13 8)::(rq1 2 14 9)::(rq1 1 14 9)::(rg1 16 11 14 9)::(rg1 17 12 14 9)::(rg1 18 13 14 9)::⟨[(15,some 10),(19,some 14),(14,some 9)],14,[]⟩::(rg1 20 15 14 9)::⟨[(14,some 9),(21,some 16)],0,[]⟩::(rd1 22 17)::[])
    (no::no::no::no::so 18::so 0::so 1::so 2::so 3::so 4::so 5::so 6::so 7::so 8::so 9::so 10::so 11::so 12::so 13::so 14::so 15::so 16::so 17::[])
    (fun _ w'=>Below wW.heap.size wW w') (fun _ w w'=>Below w.heap.size w w') ?mixK1pointerno ?okK1pointerno ?tabK1pointerno ?frK1pointerno ?inK1pointerno ?keptK1pointerno ?startK1pointerno ?eachK1pointerno ?finK1pointerno
   case mixK1pointerno|okK1pointerno|tabK1pointerno|frK1pointerno=>kernel_rfl
   case inK1pointerno=>rfl
   case keptK1pointerno=>((repeat refine⟨fun _ _ _ _ _ _ _ _ _ _ _ h=>h,?_⟩);exact trivial)
   case startK1pointerno=>exact hgo.out
   case eachK1pointerno=>
    repeat' first|exact trivial|refine And.intro ?_ ?_
    ·intro w L f hC hLi hLd hLn ⟨d,_⟩;refine au.live rfl ?_;exact aj (v:=f 1) rfl (hC) (Below.refl _ _) d
    ·intro w L f hC hLi hLd hLn ⟨a,_⟩;change _=_ at a;refine au.live rfl ?_;obtain⟨ev,ec,ef⟩:=evs f;refine aj ?_ (hC) (Below.refl _ _) rfl;go_simp
    ·intro w L f hC hLi hLd hLn ⟨d,_⟩;refine au.live rfl ?_;exact aj (v:=f 6) rfl (hC) (Below.refl _ _) d
    ·intro w L f hC hLi hLd hLn ⟨d1,d7,_⟩;change _=_ at d1 d7;refine au.live (show ak _ (f 7)=true by rw[d7];rfl) ?_;exact aj (v:=f 1) rfl (hC) (Below.refl _ _) d1
    iterate 3 (intro w L f hC hLi hLd hLn ⟨a,d7,_⟩;change _=_ at a d7;refine au.live (show ak _ (f 7)=true by rw[d7];rfl) ?_;obtain⟨p0,p1,p2,p3,pl,q0,q2,qx⟩:=hfc.out w hC;obtain⟨ev,ec,ef⟩:=evs f;refine aj ?_ hC (Below.refl _ _) rfl;go_simp)
    ·intro w L f hC hLi hLd hLn ⟨a,d7,_⟩;change _=_ at a d7;refine au.live (show ak _ (f 7)=true by rw[d7];rfl) ?_;obtain⟨ev,ec,ef⟩:=evs f;refine aj ?_ (hC) (Below.refl _ _) rfl;go_simp
    ·intro w L f hC hLi hLd hLn ⟨a,b,_⟩;change _=_ at a b;refine au.live rfl ?_;obtain⟨ev,ec,ef⟩:=evs f;refine aj ?_ (hC) (Below.refl _ _) rfl;go_simp
    ·intro w L f hC hLi hLd hLn ⟨d,_⟩;refine au.live rfl ?_;exact aj (v:=f 13) rfl (hC) (Below.refl _ _) d
    iterate 5 (intro w L f hC hLi hLd hLn ⟨_,d,_⟩;refine aI.dead (show ak _ (f 14)=false by rw[show f 14=_ from d];rfl) (hC) ?_ (Below.refl _ _);exact rfl)
    ·intro w L f hC hLi hLd hLn ⟨_,_,d,_⟩;refine aI.dead (show ak _ (f 14)=false by rw[show f 14=_ from d];rfl) (hC) ?_ (Below.refl _ _);exact rfl
    ·intro w L f hC hLi hLd hLn ⟨_,d,_⟩;refine aI.dead (show ak _ (f 14)=false by rw[show f 14=_ from d];rfl) (hC) ?_ (Below.refl _ _);exact rfl
    ·intro w L f hC hLi hLd hLn ⟨a,b,_⟩;change _=_ at a b;refine au.live rfl ?_;obtain⟨ev,ec,ef⟩:=evs f;refine aj ?_ (hC) (Below.refl _ _) rfl;go_simp
    ·intro w L f hC hLi hLd hLn ⟨d,_⟩;refine au.live rfl ?_;exact aj (v:=f 22) rfl (hC) (Below.refl _ _) d
   intro x w' hC hV
   have e4:=hV 18 _ rfl rfl;have hC':=Za (hBd.out.trans (hC.mono hBd.out.size));clear hV hC;simp only[framed];rw[e4];go_wp2_with fail;go_ret;exact⟨by rw[hR3.out];rfl,hC'.out⟩
theorem fO:∀(l:List Vr) (x:List UInt8),dX l x=0∨dX l x=1∨dX l x=2
 | [],_=> .inl rfl
 |v::l,x=>by
  unfold dX;split
  ·split
   ·exact .inr (.inr rfl)
   ·exact .inr (.inl rfl)
  ·exact fO l x
def zeroS:Array Value:= #[.int .i64 0,.string ⟨#[]⟩,.string ⟨#[]⟩,.pointer none,.pointer none,.pointer none,.slice none 0 0,.slice none 0 0,.slice none 0 0,.int .i64 0]
def Apt (S:Nat→Prop) (gs gr B:Nat) (x:Nat):Prop:=x≠gs∧x≠gr∧(S x∨B≤x)
def qH (S:Nat→Prop) (K:List UInt8→Nat) (h:Hd) (At Al:Option Addr) (nt ct nl cl:Nat) (w:World) (e:Ending) (w':World):Prop:=
 ∃h' pe pf pc Aa na ca At' nt' ct' Al' nl' cl',e= .returned (.tuple #[.agg (stC h' pe pf pc Aa At' Al' na ca nt' ct' nl' cl'),.bool (aS K h).2])∧Below w.heap.size w w'∧
  ((aS K h).2=true→h'=(aS K h).1∧dn w' (fun x=>S x∨w.heap.size≤x) h' (.pointer pe) (.pointer pf) (.pointer pc) (.slice Aa na ca)∧(turned K h=true→At'=none∧nt'=0∧ct'=0∧Al'=none∧nl'=0∧cl'=0)∧(turned K h=false→At'=At∧nt'=nt∧ct'=ct∧Al'=Al∧nl'=nl∧cl'=cl))
theorem uw {fn:Func} {p u:Tmp} {ty:TypeId} {R:Ending→World→Prop} {a:Act} {w:World} {g:Nat} {t:TypeId} {cs:Array Value} {fs:Array Field} (h:fn.results= #[.cell p ty,.tmp u]) (hd0:a.defers= []) (hp:a.tmps.getD p undef= .pointer (some ⟨g,0,none⟩))
  (hg:Holds w g t cs) (hu:Tryz.prog.underlying ty=some (.struct fs)) (hi:(Tryz.prog.info? ty).map (·.size)=some cs.size)
  (hR:R (.returned (.tuple #[.agg cs,a.tmps.getD u undef])) w):bodyPost Tryz.prog fn R .ret a w:=by
 refine bodyPost_ret_by (v:= .tuple #[.agg cs,a.tmps.getD u undef]) ?_ hd0 hR
 have hp':a.tmps[p]?.getD undef= .pointer (some ⟨g,0,none⟩):=by simpa[Array.getD_eq_getD_getElem?]using hp
 simp[results,h,hp',asAddr,run_loadVar_row w g t ty cs (0,0) _ hg hu rfl hi,Result.andThen,Array.getD_eq_getD_getElem?]
structure StB (S:Nat→Prop) (F:FnV) (h:Hd) (pe pf pc Aa:Option Addr) (na ca:Nat) (cs:Array Value) (g gs gr:Nat) (w0 w:World):Prop where
 rf:RfB F g w0 w
 hs:Holds w gs 63 cs
 hr:Holds w gr 63 zeroS
 hd:dn w (Apt S gs gr w0.heap.size) h (.pointer pe) (.pointer pf) (.pointer pc) (.slice Aa na ca)
 g0:w0.heap.size≤gs
 gl:gs<gr
section
variable {S:Nat→Prop} {F:FnV} {h:Hd} {pe pf pc Aa At Al:Option Addr} {na ca nt ct nl cl:Nat} {cs:Array Value} {g gs gr:Nat} {w0 w w':World}
theorem StB.below (H:StB S F h pe pf pc Aa na ca cs g gs gr w0 w) (hb:Below w.heap.size w w'):StB S F h pe pf pc Aa na ca cs g gs gr w0 w':=⟨H.rf.below hb,H.hs.below hb H.hs.lt,H.hr.below hb H.hr.lt,H.hd.below hb,H.g0,H.gl⟩
theorem StB.fr (H:StB S F h pe pf pc Aa na ca cs g gs gr w0 w):w.cell? ⟨gr,0,none⟩=some (.int .i64 0)∧w.cell? ⟨gr,1,none⟩=some (.string ⟨#[]⟩)∧w.cell? ⟨gr,2,none⟩=some (.string ⟨#[]⟩)∧w.cell? ⟨gr,3,none⟩=some (.pointer none)∧w.cell? ⟨gr,4,none⟩=some (.pointer none)∧w.cell? ⟨gr,5,none⟩=some (.pointer none)∧w.cell? ⟨gr,6,none⟩=some (.slice none 0 0)∧w.cell? ⟨gr,7,none⟩=some (.slice none 0 0)∧w.cell? ⟨gr,8,none⟩=some (.slice none 0 0)∧w.cell? ⟨gr,9,none⟩=some (.int .i64 0)∧gr<w.heap.size∧Hid (∀i,w.frozen? ⟨gr,i,none⟩=false):=
 ⟨H.hr.cell 0,H.hr.cell 1,H.hr.cell 2,H.hr.cell 3,H.hr.cell 4,H.hr.cell 5,H.hr.cell 6,H.hr.cell 7,H.hr.cell 8,H.hr.cell 9,H.hr.lt,Za fun i=>H.hr.frozen i⟩
theorem StB.end_ {K:List UInt8→Nat} {ok:Bool} (H:StB S F h pe pf pc Aa na ca (stC h pe pf pc Aa At Al na ca nt ct nl cl) g gs gr w0 w) (h0:Hd) (e2:(aS K h0).2=ok) (e1:ok=true→(aS K h0).1=h∧turned K h0=false):
  qH S K h0 At Al nt ct nl cl w0 (.returned (.tuple #[.agg (stC h pe pf pc Aa At Al na ca nt ct nl cl),.bool ok])) (nV w gr (.int .i64 h.k) (.string (ay h.x)) (.string (ay h.y)) (.pointer pe) (.pointer pf) (.pointer pc) (.slice Aa na ca) (.slice At nt ct) (.slice Al nl cl) (.int .i64 h.at_)):=by
 have hW:=bU w gr (.int .i64 h.k) (.string (ay h.x)) (.string (ay h.y)) (.pointer pe) (.pointer pf) (.pointer pc) (.slice Aa na ca) (.slice At nt ct) (.slice Al nl cl) (.int .i64 h.at_);refine⟨h,pe,pf,pc,Aa,na,ca,At,nt,ct,Al,nl,cl,by rw[e2],H.rf.bl.trans (hW.below H.rf.bl.size fun j hj=>by have h1:=H.g0;have h2:=H.gl;simp at hj;omega),fun hok=> ?_⟩;obtain⟨y1,y2⟩:=e1 (e2▸hok);refine⟨y1.symm,(H.hd.keep fun x hx hS=>hW.block x hx (by simp;exact hS.2.1)).mono fun _ _ hS=>hS.2.2,fun ht=> ?_,fun _=>⟨rfl,rfl,rfl,rfl,rfl,rfl⟩⟩;rw[y2]at ht;cases ht
theorem StB.fin {K:List UInt8→Nat} {ok:Bool} {fn:Func} {p u:Tmp} {ty:TypeId} {a:Act} {fs:Array Field} (H:StB S F h pe pf pc Aa na ca (stC h pe pf pc Aa At Al na ca nt ct nl cl) g gs gr w0 w) (h0:Hd) (e2:(aS K h0).2=ok) (e1:ok=true→(aS K h0).1=h∧turned K h0=false)
  (hfn:fn.results= #[.cell p ty,.tmp u]) (hd0:a.defers= []) (hp:a.tmps.getD p undef= .pointer (some ⟨gr,0,none⟩)) (hok:a.tmps.getD u undef= .bool ok) (hu:Tryz.prog.underlying ty=some (.struct fs)) (hi:(Tryz.prog.info? ty).map (·.size)=some 10):
  bodyPost Tryz.prog fn (qH S K h0 At Al nt ct nl cl w0) .ret a (nV w gr (.int .i64 h.k) (.string (ay h.x)) (.string (ay h.y)) (.pointer pe) (.pointer pf) (.pointer pc) (.slice Aa na ca) (.slice At nt ct) (.slice Al nl cl) (.int .i64 h.at_)):=
 uw hfn hd0 hp (cO H.hr _ _ _ _ _ _ _ _ _ _) hu hi (by rw[hok];exact H.end_ h0 e2 e1)
theorem StB.gx (H:StB S F h pe pf pc Aa na ca cs g gs gr w0 w):dn w Evr h (.pointer pe) (.pointer pf) (.pointer pc) (.slice Aa na ca):=H.hd.mono fun _ _ _=>trivial
theorem StB.facts (H:StB S F h pe pf pc Aa na ca (stC h pe pf pc Aa At Al na ca nt ct nl cl) g gs gr w0 w):(w.cell? ⟨g,0,none⟩=some (.string (ay F.nm))∧w.cell? ⟨g,1,none⟩=some (.slice F.A1 F.ps.length F.c1)∧w.cell? ⟨g,2,none⟩=some (.slice F.A2 F.ls.length F.c2)∧w.cell? ⟨g,3,none⟩=some (.slice F.A3 F.n3 F.c3)∧g<w.heap.size)∧(w.cell? ⟨gs,0,none⟩=some (.int .i64 h.k)∧w.cell? ⟨gs,1,none⟩=some (.string (ay h.x))∧w.cell? ⟨gs,2,none⟩=some (.string (ay h.y))∧w.cell? ⟨gs,3,none⟩=some (.pointer pe)∧w.cell? ⟨gs,4,none⟩=some (.pointer pf)∧w.cell? ⟨gs,5,none⟩=some (.pointer pc)∧w.cell? ⟨gs,6,none⟩=some (.slice Aa na ca)∧w.cell? ⟨gs,7,none⟩=some (.slice At nt ct)∧w.cell? ⟨gs,8,none⟩=some (.slice Al nl cl)∧w.cell? ⟨gs,9,none⟩=some (.int .i64 h.at_)∧gs<w.heap.size):=⟨H.rf.facts,H.hs.cell 0,H.hs.cell 1,H.hs.cell 2,H.hs.cell 3,H.hs.cell 4,H.hs.cell 5,H.hs.cell 6,H.hs.cell 7,H.hs.cell 8,H.hs.cell 9,H.hs.lt⟩
end
end Go.Proofs.YtpndglghpojjkaaGreat
namespace Go.Proofs.YtpndglghpojjkaaGreat
section
variable {C:PC}
theorem Cm {sum un:PS→Ex×PS} (hs:∀s,WfE (sum s).1) (hu:∀s,WfE (un s).1) (s:PS):WfE (unF C sum un s).1:=by
 unfold unF;split
 ·trivial
 ·split
  ·trivial
  ·split
   ·split
    ·exact⟨fun h=>absurd h (by decide),hu _,trivial⟩
    ·trivial
   ·split
    ·split
     ·exact hs _
     ·trivial
    ·split
     ·exact⟨fun h=>absurd h (by decide),trivial,trivial⟩
     ·split
      ·exact⟨fun _=>⟨rfl,rfl⟩,trivial,trivial⟩
      ·trivial
theorem AY (s:PS):gW C s≠1:=by
 unfold gW
 repeat' split
 all_goals decide
theorem CQ (s:PS):kS C s≠1:=by
 unfold kS
 repeat' split
 all_goals decide
theorem rF {kf:PS→Nat} {part:PS→Ex×PS} (hk:∀s,kf s≠1) (hp:∀s,WfE (part s).1):∀(f:Nat) (a:Ex) (s:PS),WfE a→WfE (moreL kf part f a s).1
 |0,_,_,h=>h
 |f+1,a,s,h=>by
  unfold moreL;split
  ·exact h
  ·split
   ·exact h
   ·exact rF hk hp f _ _ ⟨fun h1=>absurd h1 (hk _),h,hp _⟩
theorem wZ {un:PS→Ex×PS} (hu:∀s,WfE (un s).1) (s:PS):WfE (nX C un s).1:=rF AY hu _ _ _ (hu s)
theorem zH {un:PS→Ex×PS} (hu:∀s,WfE (un s).1) (s:PS):WfE (sumF C un s).1:=rF CQ (wZ hu) _ _ _ (wZ hu s)
theorem yE:∀(d:Nat) (s:PS),WfE (unD C d s).1
 |0,s=>Cm (sum:=fun s=>(.nil,s)) (un:=fun s=>(.nil,s)) (fun _=>trivial) (fun _=>trivial) s
 |d+1,s=>Cm (zH (yE d)) (yE d) s
theorem qK (d:Nat) (s:PS):WfE (sS C d s).1:=zH (yE d) s
theorem zY {sum:PS→Ex×PS} (hs:∀s,WfE (sum s).1) {a:Ex} (ha:WfE a):∀(l:List (List UInt8)) (k:Nat) (s:PS),k+l.length≤9→WfC (pW C sum a k l s).1
 | [],_,_,_=>trivial
 |t::r,k,s,h=>by
  unfold pW;simp only[List.length_cons]at h;split
  ·exact⟨fun e=>by omega,ha,hs _,trivial,trivial⟩
  ·exact zY hs ha r (k+1) s (by omega)
theorem zN {sum:PS→Ex×PS} {cond not_:PS→Cn×PS} (hs:∀s,WfE (sum s).1) (hc:∀s,WfC (cond s).1) (hn:∀s,WfC (not_ s).1) (s:PS):WfC (nG C sum cond not_ s).1:=by
 unfold nG;split
 ·split
  ·exact⟨fun h=>absurd h (by decide),trivial,trivial,hn _,trivial⟩
  ·trivial
 ·split
  ·split
   ·exact hc _
   ·trivial
  ·split
   ·simp only;split
    ·exact⟨fun h=>absurd h (by decide),trivial,trivial,⟨fun _=>⟨rfl,rfl,rfl,rfl⟩,trivial,trivial,trivial,trivial⟩,trivial⟩
    ·exact⟨fun _=>⟨rfl,rfl,rfl,rfl⟩,trivial,trivial,trivial,trivial⟩
   ·exact zY hs (hs s) _ _ _ (by decide)
theorem rJ {t:List UInt8} {k:Nat} (hk:k≠9) {part:PS→Cn×PS} (hp:∀s,WfC (part s).1):∀(f:Nat) (c:Cn) (s:PS),WfC c→WfC (joinL C t k part f c s).1
 |0,_,_,h=>h
 |f+1,c,s,h=>by
  unfold joinL;split
  ·exact rJ hk hp f _ _ ⟨fun h1=>absurd h1 hk,trivial,trivial,h,hp _⟩
  ·exact h
theorem z_ {n:PS→Cn×PS} (hn:∀s,WfC (n s).1) (s:PS):WfC (BQ C n s).1:=rJ (by decide) hn _ _ _ (hn s)
theorem xX {n:PS→Cn×PS} (hn:∀s,WfC (n s).1) (s:PS):WfC (zW C n s).1:=rJ (by decide) (z_ hn) _ _ _ (z_ hn s)
theorem vV:∀(d:Nat) (s:PS),WfC (qI C d s).1
 |0,s=>zN (cond:=fun s=>(.nil,s)) (not_:=fun s=>(.nil,s)) (qK 0) (fun _=>trivial) (fun _=>trivial) s
 |d+1,s=>zN (qK (d+1)) (xX (vV d)) (vV d) s
theorem xY (d:Nat) (s:PS):WfC (uT C d s).1:=xX (vV d) s
def WfA (a:Ag):Prop:=WfE a.e∧(a.ptr=true→a.e=Ex.nil)
theorem yg {sum:PS→Ex×PS} (hs:∀s,WfE (sum s).1):∀(f:Nat) (l:List Ag) (s:PS),(∀a∈l,WfA a)→∀a∈(lg C sum f l s).1,WfA a
 |0,_,_,_=>by intro a h;cases h
 |f+1,l,s,hl=>by
  have hl2:∀a∈l++ [⟨false,[],(sum s).1⟩],WfA a:=by
   intro a h;rcases List.mem_append.1 h with h|h
   ·exact hl a h
   ·simp only[List.mem_singleton]at h;subst h;exact⟨hs s,fun h=>by cases h⟩
  unfold lg;split
  ·intro a h;cases h
  ·split
   ·exact hl2
   ·exact yg hs f _ _ hl2
theorem yh {sum:PS→Ex×PS} (hs:∀s,WfE (sum s).1) (s:PS):∀a∈(jg C sum s).1,WfA a:=by
 unfold jg;split
 ·intro a h;cases h
 ·exact yg hs _ _ _ (by intro a h;cases h)
theorem WfH.of {h:Hd} (e:WfE h.e) (f:WfE h.f) (c:WfC h.c) (a:∀a∈h.args,WfA a) (hk:h.k≤12) (h8:h.k≠8→h.args= []) (h0:h.k=0→h.f= .nil∧h.c= .nil) (h2:h.k≠2):WfH h .nil .nil:=
 ⟨e,f,c,a,h8,fun x=>⟨(h0 x).1,(h0 x).2,rfl,rfl⟩,fun x=>absurd x h2,hk⟩
theorem gY {P:Ag→Prop}:∀a∈([]:List Ag),P a:=by intro a h;cases h
theorem Aj {sum:PS→Ex×PS} (hs:∀s,WfE (sum s).1) (n:Nat) (x:List UInt8) (s:PS):WfH (iI C sum {hd0 n with x:=x} s).1 .nil .nil:=by
 unfold iI hd0;split
 ·exact WfH.of trivial trivial trivial gY (by simp) (fun _=>rfl) (fun h=>by simp at h) (by simp)
 ·split
  ·exact WfH.of trivial trivial trivial gY (by simp) (fun _=>rfl) (fun h=>by simp at h) (by simp)
  ·split
   ·exact WfH.of trivial trivial trivial gY (by simp) (fun _=>rfl) (fun h=>by simp at h) (by simp)
   ·split
    ·exact WfH.of (hs _) trivial trivial gY (by simp) (fun _=>rfl) (fun h=>by simp at h) (by simp)
    ·split
     ·exact WfH.of trivial trivial trivial (yh hs _) (by simp) (fun h=>absurd rfl h) (fun h=>by simp at h) (by simp)
     ·exact WfH.of (hs _) trivial trivial gY (by simp) (fun _=>rfl) (fun _=>⟨rfl,rfl⟩) (by simp)
theorem AZ {sum:PS→Ex×PS} {cond:PS→Cn×PS} (hs:∀s,WfE (sum s).1) (hc:∀s,WfC (cond s).1) (n:Nat) (s:PS):WfH (gX C sum cond n s).1 .nil .nil:=by
 unfold gX;split
 ·exact WfH.of (hs _) trivial trivial gY (by simp) (fun _=>rfl) (fun h=>by simp at h) (by simp)
 ·split
  ·exact WfH.of trivial trivial (hc _) gY (by simp) (fun _=>rfl) (fun h=>by simp at h) (by simp)
  ·split
   ·exact WfH.of (hs _) trivial trivial gY (by simp) (fun _=>rfl) (fun h=>by simp at h) (by simp)
   ·split
    ·exact WfH.of trivial trivial trivial (yh hs _) (by simp) (fun h=>absurd rfl h) (fun h=>by simp at h) (by simp)
    ·split
     ·exact WfH.of (hs _) (hs _) trivial gY (by simp) (fun _=>rfl) (fun h=>by simp at h) (by simp)
     ·exact Aj hs _ _ _
def WfT (x:Hd×Sl×Sl):Prop:=WfH x.1 x.2.1 x.2.2∧WfS x.2.1∧WfS x.2.2
theorem wM {sum:PS→Ex×PS} {cond:PS→Cn×PS} {block:PS→Sl×PS} (hs:∀s,WfE (sum s).1) (hc:∀s,WfC (cond s).1) (hb:∀s,WfS (block s).1) (s:PS):WfT (fV C sum cond block s).1:=by
 have key:∀(k n:Nat) (c:Cn) (t e:Sl),(k=10∨k=11)→WfC c→WfH {hd0 n with k:=k,c:=c} t e:=by
  intro k n c t e hk hc;refine⟨trivial,trivial,hc,gY,fun _=>rfl,fun h=> ?_,fun h=> ?_,?_⟩
  all_goals simp only at*
  all_goals omega
 unfold fV;split
 ·exact⟨WfH.of trivial trivial trivial gY (by simp[hd0]) (fun _=>rfl) (fun _=>⟨rfl,rfl⟩) (by simp[hd0]),trivial,trivial⟩
 ·split
  ·split
   ·exact⟨key _ _ _ _ _ (.inl rfl) (hc _),hb _,hb _⟩
   ·exact⟨key _ _ _ _ _ (.inl rfl) (hc _),hb _,trivial⟩
  ·split
   ·exact⟨key _ _ _ _ _ (.inr rfl) (hc _),hb _,trivial⟩
   ·exact⟨AZ hs hc _ _,trivial,trivial⟩
theorem zK:∀{l:Sl} {h:Hd} {t e:Sl},WfS l→WfT (h,t,e)→WfS (l.snoc h t e)
 | .nil,_,_,_,_,hx=>⟨hx.1,hx.2.1,hx.2.2,trivial⟩
 | .cons _ _ _ _,_,_,_,hl,hx=>⟨hl.1,hl.2.1,hl.2.2.1,zK hl.2.2.2 hx⟩
theorem t_ {stmt:PS→(Hd×Sl×Sl)×PS} (hs:∀s,WfT (stmt s).1):∀(f:Nat) (l:Sl) (s:PS),WfS l→WfS (je C stmt f l s).1
 |0,_,_,h=>h
 |f+1,l,s,h=>by
  unfold je;split
  ·exact h
  ·split
   ·exact h
   ·split
    ·trivial
    ·exact t_ hs f _ _ (zK h (hs s))
theorem uf {stmt:PS→(Hd×Sl×Sl)×PS} (hs:∀s,WfT (stmt s).1) (s:PS):WfS (lC C stmt s).1:=t_ hs _ _ _ trivial
theorem uY {stmts:PS→Sl×PS} (hs:∀s,WfS (stmts s).1) (s:PS):WfS (iy C stmts s).1:=by
 unfold iy;split
 ·split
  ·exact hs _
  ·trivial
 ·trivial
theorem wO:∀(d:Nat) (s:PS),WfT (nP C d s).1
 |0,s=>wM (qK 0) (xY 0) (uY (stmts:=fun s=>(.nil,s)) fun _=>trivial) s
 |d+1,s=>wM (qK (d+1)) (xY (d+1)) (uY (uf (wO d))) s
theorem Am (d:Nat) (s:PS):WfS (jq C d s).1:=uf (wO d) s
theorem Ep:WfS (ni C).1:=by
 unfold ni;generalize (39:Nat)=d;exact Am d _
end
structure BU (f:Fnc):Prop where
 body:WfS f.body
theorem BU.none_:BU Fnc.none:=⟨trivial⟩
theorem Eb (C:PC):BU (uO C).1:=by
 have hb:=Ep (C:=C);unfold uO;generalize ni C=r at hb;generalize qw C r.2=s;split
 ·exact BU.none_
 ·exact⟨hb⟩
theorem xQ (l:List UInt8):BU (funcF l).1:=by
 unfold funcF;generalize o_ l=x;split
 ·exact BU.none_
 ·exact Eb _
end Go.Proofs.YtpndglghpojjkaaGreat
