/-
  10 texts of the proof, in one file: no condition.
-/
import Derived.WalkKit
import Derived.WalkSpells
import Derived.WalkLawsBesides
import Derived.Lib.Hide
import Derived.Deep.Draws
import Derived.Lib.SlBytesConst
import Derived.Test.YtpndglghpojjkaaGreatRows
import Derived.ProofKit
import Derived.OpenShut
import Derived.Deep.Matrix
import Derived.Maps.AppendAt
import Derived.Deep.QuietTactic
import Derived.BigQuiet
import Derived.StillTailTactics
import Derived.IntWalk
import Derived.Deep.DeepCutAuto
import Derived.Laws.ResultCell
import Derived.Laws.Rows
import Derived.Laws.NewBlocks
import Derived.Test.YtpndglghpojjkaaGreatProg
import Derived.Maps.OwnSet
import Derived.Maps.RangeWalk
import Derived.StringKeys
import Derived.Shelf.Abstract
import Derived.OwnWalk
import Derived.Lib.SliceRun
import Derived.Lib.Walk
import Derived.Lib.AppendZerosOnto
import Derived.Lib.SlicesCompact
import Derived.Sort.EncStr
import Derived.Shelf.Small.Strs
import Derived.Shelf.Sort.Plain
import Derived.Ground.Names2Prog
import Derived.Shelf.Slices.Clone
import Derived.Shelf.Slices.CompactS
import Derived.Shelf.Slices.Cells
import Derived.Shelf.Slices.In.SortNone
import Derived.Sort.OwnSorted
import Derived.Sort.Grow
import Derived.Lib.OwnBridge
import Derived.RegionTactic
import Derived.ChangeAlike
import Derived.BigRegion
import Derived.Shelf.SlIter.Nil
import Derived.Shelf.SortM.Plain
import Derived.Shelf.SortM.SortNone
import Derived.Ground.GgzProg
import Derived.Ground.SlgmProg
import Derived.Deep.Slices
import Derived.Test.YtpndglghpojjkaaGreatPma1
import Derived.Test.YtpndglghpojjkaaGreatPma10
import Derived.Test.YtpndglghpojjkaaGreatPma11
import Derived.Test.YtpndglghpojjkaaGreatPma2
import Derived.Test.YtpndglghpojjkaaGreatPma3
import Derived.Test.YtpndglghpojjkaaGreatPma4
import Derived.Test.YtpndglghpojjkaaGreatPma5
import Derived.Test.YtpndglghpojjkaaGreatPma6
import Derived.Test.YtpndglghpojjkaaGreatPma7
import Derived.Test.YtpndglghpojjkaaGreatPma8
import Derived.Test.YtpndglghpojjkaaGreatPma9
set_option maxRecDepth 1000000
set_option maxHeartbeats 8000000
namespace Go.Proofs.YtpndglghpojjkaaGreat
open Go.RowKit Go.Deep
theorem dQ.up {w w':World} {A:Option Addr} {k:Nat} {l:Sl} {us:List Value} (H:dQ w Evr A k l us) (hb:Below w.heap.size w w'):dQ w' Evr A k l us:=by
 refine⟨H.cs.keep fun x hx _=>hb.block x hx,fun hne=> ?_⟩;obtain⟨b,off,e,hS,hc⟩:=H.row hne;refine⟨b,off,e,hS,fun j u hu=> ?_⟩;have h1:=hc j u hu;rw[←h1];exact World.cell?_of_block (hb.block b (lt_of_cell h1))
theorem qE (l0:Sl) (ih:∀l',l'.dep<l0.dep→HSl l'):HSl l0:=by
 intro w v v' hv hv';obtain⟨A,c,us,e,hlen,hlc,hR⟩:=hv.rest;obtain⟨A',c',us',e',-,hlc',hR'⟩:=hv'.rest;subst e e';obtain⟨n,hn⟩:∃y,y=l0.len:=⟨_,rfl⟩;rw[←hn]at hlen hlc hlc'⊢;have h0:Hid (dQ w Evr A 0 l0 us):=Lib.hid hR;have h0':Hid (dQ w Evr A' 0 l0 us'):=Lib.hid hR';have hn0:Hid (0+l0.len=n):=Lib.hid (by rw[hn];simp)
 have hd0:Hid (l0.dep≤l0.dep):=Lib.hid (Nat.le_refl _);have hih:=Lib.hid ih;clear hv hv' hR hR' hn ih;go_enter Tryz.func47,Tryz.ntmps47;go_wp2_with fail
 go_loopw [5] (fun i wl=>∃(k:Nat) (ls:Sl) (vs vs':List Value),k≤n∧i= .int .i64 k∧Hid (dQ wl Evr A k ls vs)∧Hid (dQ wl Evr A' k ls vs')∧Hid (k+ls.len=n)∧Hid (ls.dep≤l0.dep)∧Hid (Below w.heap.size w wl)) (fun i _=>n-(intOf i).toNat)
 case atStart=>exact⟨0,l0,us,us',by omega,rfl,h0,h0',hn0,hd0,Lib.hid (Below.refl _ _)⟩
 clear h0 h0' hn0 hd0;obtain⟨k,ls,vs,vs',hkn,rfl,hR,hR',hln,hdp,hB⟩:=hrel;rename World=>wl
 cases ls with
 |nil=>
  have hkn2:k=n:=by have:=hln.out;simp[Sl.len]at this;exact this
  subst hkn2;clear hR hR';go_wp2_with fail;go_ret;exact⟨rfl,hB.out⟩
 |cons h t e r=>
  have hlt:k<n:=by have:=hln.out;simp only[Sl.len]at this;omega
  obtain⟨b,off,pe,pf,pc,Aa,ca,At,ct,Al,cl,us1,hA,hh,ht,he,hc,hrest⟩:=hR.out.next;obtain⟨b',off',pe',pf',pc',Aa',ca',At',ct',Al',cl',us1',hA',hh',ht',he',hc',hrest'⟩:=hR'.out.next;subst hA hA';obtain⟨wd,hwd⟩:∃y,y=wl.drew:=⟨_,rfl⟩
  have hbd:Below wl.heap.size wl wd:=by rw[hwd];exact(Below.refl _ wl).drew
  have hdt:Hid (t.dep<l0.dep∧e.dep<l0.dep∧r.dep≤l0.dep):=Lib.hid (by have:=hdp.out;rw[Sl.lU]at this;omega);have hrl:Hid (k+1+r.len=n):=Lib.hid (by have:=hln.out;simp only[Sl.len]at this;omega)
  have hcall:=Lib.hid (Bl h t e (hih.out t hdt.out.1) (hih.out e hdt.out.2.1) wd pe pf pc Aa At Al pe' pf' pc' Aa' At' Al' ca ct cl ca' ct' cl' (hh.below hbd) (ht.below hbd) (he.below hbd) (hh'.below hbd) (ht'.below hbd) (he'.below hbd));have hr1:=Lib.hid (hrest.up hbd);have hr2:=Lib.hid (hrest'.up hbd);have hB1:=Lib.hid (hB.out.trans (hbd.mono hB.out.size))
  generalize h.args.length=na at hc hc' hcall;generalize t.len=nt at hc hc' hcall;generalize e.len=nl at hc hc' hcall;have q0:wl.cell? ⟨b,off+k*10,none⟩=some (.int .i64 h.k):=hc 0 (by decide);have q1:wl.cell? ⟨b,off+k*10+1,none⟩=some (.string (ay h.x)):=hc 1 (by decide);have q2:wl.cell? ⟨b,off+k*10+2,none⟩=some (.string (ay h.y)):=hc 2 (by decide)
  have q3:wl.cell? ⟨b,off+k*10+3,none⟩=some (.pointer pe):=hc 3 (by decide);have q4:wl.cell? ⟨b,off+k*10+4,none⟩=some (.pointer pf):=hc 4 (by decide);have q5:wl.cell? ⟨b,off+k*10+5,none⟩=some (.pointer pc):=hc 5 (by decide);have q6:wl.cell? ⟨b,off+k*10+6,none⟩=some (.slice Aa na ca):=hc 6 (by decide)
  have q7:wl.cell? ⟨b,off+k*10+7,none⟩=some (.slice At nt ct):=hc 7 (by decide);have q8:wl.cell? ⟨b,off+k*10+8,none⟩=some (.slice Al nl cl):=hc 8 (by decide);have q9:wl.cell? ⟨b,off+k*10+9,none⟩=some (.int .i64 h.at_):=hc 9 (by decide);have p0:wl.cell? ⟨b',off'+k*10,none⟩=some (.int .i64 h.k):=hc' 0 (by decide)
  have p1:wl.cell? ⟨b',off'+k*10+1,none⟩=some (.string (ay h.x)):=hc' 1 (by decide);have p2:wl.cell? ⟨b',off'+k*10+2,none⟩=some (.string (ay h.y)):=hc' 2 (by decide);have p3:wl.cell? ⟨b',off'+k*10+3,none⟩=some (.pointer pe'):=hc' 3 (by decide);have p4:wl.cell? ⟨b',off'+k*10+4,none⟩=some (.pointer pf'):=hc' 4 (by decide)
  have p5:wl.cell? ⟨b',off'+k*10+5,none⟩=some (.pointer pc'):=hc' 5 (by decide);have p6:wl.cell? ⟨b',off'+k*10+6,none⟩=some (.slice Aa' na ca'):=hc' 6 (by decide);have p7:wl.cell? ⟨b',off'+k*10+7,none⟩=some (.slice At' nt ct'):=hc' 7 (by decide);have p8:wl.cell? ⟨b',off'+k*10+8,none⟩=some (.slice Al' nl cl'):=hc' 8 (by decide)
  have p9:wl.cell? ⟨b',off'+k*10+9,none⟩=some (.int .i64 h.at_):=hc' 9 (by decide);have hfd:=Lib.hid hwd.symm;have hX:Hid (∀w5,Below wd.heap.size wd w5→dQ w5 Evr (some ⟨b,off,none⟩) (k+1) r us1∧dQ w5 Evr (some ⟨b',off',none⟩) (k+1) r us1'∧Below w.heap.size w w5):=Lib.hid fun w5 hb=>⟨hr1.out.up hb,hr2.out.up hb,hB1.out.trans (hb.mono hB1.out.size)⟩
  unfold stC at hcall;clear hR hR' hln hdp hB hwd hbd hc hc' hrest hrest' hh ht he hh' ht' he' hr1 hr2 hB1;go_wp2_with fail
  go_still_tail 8,(by kernel_rfl)
  change wpList _ _ _ _ _ wl.drew;rw[hfd.out];clear q0 q1 q2 q3 q4 q5 q6 q7 q8 q9 p0 p1 p2 p3 p4 p5 p6 p7 p8 p9 hfd;go_wp2_with fail;refine hcall.out.mono ?_;rintro e5 w5 ⟨rfl,hb5⟩;obtain⟨y1,y2,y3⟩:=hX.out w5 hb5;have z1:=Lib.hid y1;have z2:=Lib.hid y2;have z3:=Lib.hid y3;clear y1 y2 y3 hb5 hX hcall;go_wp2_with fail
  exact⟨⟨k+1,r,us1,us1',by omega,by simp,z1,z2,hrl,Lib.hid hdt.out.2.2,z3⟩,by simp[intOf];omega⟩
theorem rM:∀(N:Nat) (l:Sl),l.dep≤N→HSl l
 |0,l,hN=>qE l fun l' h=>absurd h (by omega)
 |N+1,l,hN=>qE l fun l' h=>rM N l' (by omega)
theorem uM (w:World) (l:List Vr) (v v':Value) (hv:bY w Evr l v) (hv':bY w Evr l v'):Calls Tryz.prog 46 #[v,v'] w fun e w'=>e= .returned (.bool true)∧Below w.heap.size w w':=by
 obtain⟨A,c,e,hlen,hlc,hr,-⟩:=hv;obtain⟨A',c',e',-,hlc',hr',-⟩:=hv';subst e e';obtain⟨n,hn⟩:∃y,y=l.length:=⟨_,rfl⟩;rw[←hn]at hlen hlc hlc'⊢;have r1:=Lib.hid hr;have r2:=Lib.hid hr';have hn':=Lib.hid hn;clear hr hr' hn;go_enter Tryz.func46,Tryz.ntmps46;go_wp2_with fail
 go_loopw [5] (fun i wl=>∃k:Nat,k≤n∧i= .int .i64 k∧Hid (Below w.heap.size w wl)) (fun i _=>n-(intOf i).toNat)
 case atStart=>exact⟨0,by omega,rfl,Lib.hid (Below.refl _ _)⟩
 obtain⟨k,hk,rfl,hB⟩:=hrel;rename World=>wl;by_cases hlt:k<n
 ·have hkl:k<l.length:=by rw[←hn'.out];exact hlt
  obtain⟨b,off,e,q0,q1⟩:=nN (r1.out.up hB.out) hkl;obtain⟨b',off',e',p0,p1⟩:=nN (r2.out.up hB.out) hkl;subst e e';generalize l[k]=x at q0 q1 p0 p1;obtain⟨nx,px⟩:=x;simp only at q0 q1 p0 p1;go_wp2_with fail;go_quiet (fail);rename_i nq;have hB2:=Lib.hid (hB.out.trans ((jD wl nq).mono hB.out.size));go_wp2_with fail
  exact⟨⟨k+1,by omega,by simp,hB2⟩,by simp[intOf];omega⟩
 ·obtain rfl:k=n:=by omega
  go_wp2_with fail;go_ret;exact⟨rfl,hB.out⟩
theorem Bo (w:World) (f:Fnc) (A1 A2 A3 A1' A2' A3':Option Addr) (c1 c2 c3 c1' c2' c3':Nat) (hF:eP w Evr f (.slice A1 f.ps.length c1) (.slice A2 f.ls.length c2) (.slice A3 f.body.len c3)) (hF':eP w Evr f (.slice A1' f.ps.length c1') (.slice A2' f.ls.length c2') (.slice A3' f.body.len c3')):
  Calls Tryz.prog 12 #[.agg (fnC f.nm A1 A2 A3 f.ps.length c1 f.ls.length c2 f.body.len c3),.agg (fnC f.nm A1' A2' A3' f.ps.length c1' f.ls.length c2' f.body.len c3')] w fun e w'=>e= .returned (.bool true)∧Below w.heap.size w w':=by
 obtain⟨nm,ps,ls,body⟩:=f;simp only at hF hF'⊢;obtain⟨-,h1,h2,h3⟩:=hF;obtain⟨-,g1,g2,g3⟩:=hF';simp only at h1 h2 h3 g1 g2 g3;generalize hn1:ps.length=n1 at h1 g1⊢;generalize hn2:ls.length=n2 at h2 g2⊢;generalize hn3:body.len=n3 at h3 g3⊢
 have cP:=Lib.hid fun(x:World) (hb:Below w.heap.size w x)=>uM x ps _ _ (h1.keep fun j hj _=>hb.block j hj) (g1.keep fun j hj _=>hb.block j hj);have cL:=Lib.hid fun(x:World) (hb:Below w.heap.size w x)=>uM x ls _ _ (h2.keep fun j hj _=>hb.block j hj) (g2.keep fun j hj _=>hb.block j hj)
 have cB:=Lib.hid fun(x:World) (hb:Below w.heap.size w x)=>rM body.dep body (Nat.le_refl _) x _ _ (h3.keep fun j hj _=>hb.block j hj) (g3.keep fun j hj _=>hb.block j hj);clear h1 h2 h3 g1 g2 g3 hn1 hn2 hn3;obtain⟨w2,hw2⟩:∃y,y=(w.alloc (.cells (fnC nm A1 A2 A3 n1 c1 n2 c2 n3 c3) 26)).alloc (.cells (fnC nm A1' A2' A3' n1 c1' n2 c2' n3 c3') 26):=⟨_,rfl⟩
 obtain⟨g,hg⟩:∃y,y=w.heap.size:=⟨_,rfl⟩;obtain⟨g',hg'⟩:∃y,y=w.heap.size+1:=⟨_,rfl⟩
 have hb2:Below w.heap.size w w2:=by rw[hw2];exact((Below.refl _ _).alloc (Nat.le_refl _) _).alloc (by simp) _
 have hH:Holds w2 g 26 (fnC nm A1 A2 A3 n1 c1 n2 c2 n3 c3):=by rw[hw2,hg];exact(Holds.new w _ _).alloc _
 have hH':Holds w2 g' 26 (fnC nm A1' A2' A3' n1 c1' n2 c2' n3 c3'):=by have h1:=Holds.new (w.alloc (.cells (fnC nm A1 A2 A3 n1 c1 n2 c2 n3 c3) 26)) 26 (fnC nm A1' A2' A3' n1 c1' n2 c2' n3 c3');rw[show(w.alloc (.cells (fnC nm A1 A2 A3 n1 c1 n2 c2 n3 c3) 26)).heap.size=w.heap.size+1 by simp]at h1;rw[hw2,hg'];exact h1
 have fc:∀(x:World),Below w2.heap.size w2 x→(x.cell? ⟨g,0,none⟩=some (.string (ay nm))∧x.cell? ⟨g,1,none⟩=some (.slice A1 n1 c1)∧x.cell? ⟨g,2,none⟩=some (.slice A2 n2 c2)∧x.cell? ⟨g,3,none⟩=some (.slice A3 n3 c3)∧g<x.heap.size)∧(x.cell? ⟨g',0,none⟩=some (.string (ay nm))∧x.cell? ⟨g',1,none⟩=some (.slice A1' n1 c1')∧x.cell? ⟨g',2,none⟩=some (.slice A2' n2 c2')∧x.cell? ⟨g',3,none⟩=some (.slice A3' n3 c3')∧g'<x.heap.size):=fun x hb=>by
  have y:=hH.below hb hH.lt;have y':=hH'.below hb hH'.lt;exact⟨⟨y.cell 0,y.cell 1,y.cell 2,y.cell 3,y.lt⟩,⟨y'.cell 0,y'.cell 1,y'.cell 2,y'.cell 3,y'.lt⟩⟩
 have hfc:=Lib.hid fc;have hb2':=Lib.hid hb2;have hfo:=Lib.hid hw2.symm;have hgH:=Lib.hid hg.symm;have D5:=Lib.hid hg'.symm;unfold fnC at hfo;clear hw2 hg hg' hb2 hH hH' fc;unfold fnC;go_enter Tryz.func12,Tryz.ntmps12;go_upto_region 1 with(fail);rw[hfo.out,D5.out,hgH.out];clear hfo hgH D5;obtain⟨⟨q0,q1,q2,q3,ql⟩,⟨p0,p1,p2,p3,pl⟩⟩:=hfc.out w2 (Below.refl _ _);go_wp2_with fail
 refine(cP.out w2 hb2'.out).mono ?_;rintro e3 w3 ⟨rfl,hb3⟩;clear q0 q1 q2 q3 ql p0 p1 p2 p3 pl;obtain⟨⟨q0,q1,q2,q3,ql⟩,⟨p0,p1,p2,p3,pl⟩⟩:=hfc.out w3 hb3;replace hb3:=Lib.hid hb3;go_wp2_with fail;refine(cL.out w3 (hb2'.out.trans (hb3.out.mono hb2'.out.size))).mono ?_;rintro e4 w4 ⟨rfl,hb4⟩;clear q0 q1 q2 q3 ql p0 p1 p2 p3 pl;have hb34:=hb3.out.trans (hb4.mono hb3.out.size)
 obtain⟨⟨q0,q1,q2,q3,ql⟩,⟨p0,p1,p2,p3,pl⟩⟩:=hfc.out w4 hb34;replace hb34:=Lib.hid hb34;clear hb3 hb4;go_wp2_with fail;refine(cB.out w4 (hb2'.out.trans (hb34.out.mono hb2'.out.size))).mono ?_;rintro e5 w5 ⟨rfl,hb5⟩;have hB5:=Lib.hid (hb2'.out.trans ((hb34.out.trans (hb5.mono hb34.out.size)).mono hb2'.out.size));clear q0 q1 q2 q3 ql p0 p1 p2 p3 pl hb34 hb5;go_wp2_with fail;go_ret
 exact⟨rfl,hB5.out⟩
theorem AQ (F:FnV) (w:World) (h:Hd) (pe pf pc Aa At Al:Option Addr) (na ca nt ct nl cl:Nat) (S:Nat→Prop) (hF:F.ok w) (H:dn w S h (.pointer pe) (.pointer pf) (.pointer pc) (.slice Aa na ca)):
  Calls Tryz.prog 93 #[.agg F.cells,.agg (stC h pe pf pc Aa At Al na ca nt ct nl cl)] w (qH S F.K h At Al nt ct nl cl w):=by
 have hk:=H.k;obtain⟨k,hx,hy,he,hf,hc,hg,ha⟩:=h;simp only at hk;rcases(show k=0∨k=8∨(k=1∨k=2∨k=3∨k=4)∨(k=5∨k=6∨k=7∨k=9)∨(k=10∨k=11∨k=12)by omega)with h0|h0|h0|h0|h0
 ·exact yM F w k hx hy he hf hc hg ha h0 pe pf pc Aa At Al na ca nt ct nl cl S hF H
 ·exact yO F w k hx hy he hf hc hg ha h0 pe pf pc Aa At Al na ca nt ct nl cl S hF H
 ·exact AO F w k hx hy he hf hc hg ha h0 pe pf pc Aa At Al na ca nt ct nl cl S hF H
 ·exact AP F w k hx hy he hf hc hg ha h0 pe pf pc Aa At Al na ca nt ct nl cl S hF H
 ·exact yN F w k hx hy he hf hc hg ha h0 pe pf pc Aa At Al na ca nt ct nl cl S hF H
def Sl.app:Sl→Sl→Sl
 | .nil,y=>y
 | .cons h t e r,y=> .cons h t e (r.app y)
theorem Sl.zZ:∀(l:Sl),l.app .nil=l
 | .nil=>rfl
 | .cons h t e r=>by show Sl.cons h t e (r.app .nil)=_;rw[Sl.zZ r]
theorem Sl.wS:∀(l:Sl) (h:Hd) (t e y:Sl),(l.snoc h t e).app y=l.app (.cons h t e y)
 | .nil,_,_,_,_=>rfl
 | .cons a b c r,h,t,e,y=>by show Sl.cons a b c ((r.snoc h t e).app y)=_;rw[Sl.wS r];rfl
def r_ (d:Sl) (r:Sl×Option Nat):Sl×Option Nat:=match r.2 with|some a=>(.nil,some a)|none=>(d.app r.1,none)
def atI:Option Nat→Int
 |some a=>a
 |none=> -1
theorem Ef (d:Sl):r_ d (.nil,none)=(d,none):=by unfold r_;simp only[Sl.zZ]
section
variable {K:List UInt8→Nat} {h:Hd} {t e r:Sl}
theorem qQ (h1:(aS K h).2=false):aO K (.cons h t e r)=(.nil,some h.at_):=by
 unfold aO;rw[if_neg (by rw[h1];simp)]
theorem wJ (h1:(aS K h).2=true) {a:Nat} (h2:(aO K (gy K h t)).2=some a):aO K (.cons h t e r)=(.nil,some a):=by
 unfold aO;rw[if_pos h1];unfold gy at h2;by_cases ht:turned K h=true
 ·rw[if_pos ht]at h2;cases h2
 ·rw[if_neg ht]at h2⊢;rw[h2]
theorem wK (h1:(aS K h).2=true) (h2:(aO K (gy K h t)).2=none) {a:Nat} (h3:(aO K (gy K h e)).2=some a):aO K (.cons h t e r)=(.nil,some a):=by
 unfold aO;rw[if_pos h1];unfold gy at h2 h3;by_cases ht:turned K h=true
 ·rw[if_pos ht]at h3;cases h3
 ·rw[if_neg ht]at h2 h3⊢;rw[h2];simp only[h3]
theorem tZ (d:Sl) (h1:(aS K h).2=true) (h2:(aO K (gy K h t)).2=none) (h3:(aO K (gy K h e)).2=none):r_ d (aO K (.cons h t e r))=r_ (d.snoc (aS K h).1 (aO K (gy K h t)).1 (aO K (gy K h e)).1) (aO K r):=by
 have e0:aO K (.cons h t e r)=match (aO K r).2 with|some a=>(.nil,some a)|none=>(.cons (aS K h).1 (aO K (gy K h t)).1 (aO K (gy K h e)).1 (aO K r).1,none):=by
  conv=>lhs;unfold aO
  rw[if_pos h1];unfold gy at h2 h3⊢;by_cases ht:turned K h=true
  ·rw[if_pos ht,if_pos ht,if_pos ht];rfl
  ·rw[if_neg ht]at h2 h3⊢;rw[if_neg ht,if_neg ht,h2];simp only[h3];rfl
 rw[e0]
 cases hr:(aO K r).2 with
 |some a=>simp only[r_,hr]
 |none=>simp only[r_,hr,Sl.wS]
end
def RSt (F:FnV) (l:Sl):Prop:=∀(w:World) (v:Value) (S:Nat→Prop),F.ok w→aQ w S l v→
 Calls Tryz.prog 45 #[.agg F.cells,v] w fun e w'=>∃v',e= .returned (.tuple #[v',.int .i64 (atI (aO F.K l).2)])∧aQ w' (fun x=>S x∨w.heap.size≤x) (aO F.K l).1 v'∧Below w.heap.size w w'
structure sO (S:Nat→Prop) (B0 B:Nat) (d:Sl) (v:Value) (us:List Value) (w:World):Prop where
 own:w.ownsRow B 63 10 v d.len us
 cs:aN w (fun x=>(S x∨B0≤x)∧some x≠v.ownBlock) d us
theorem sO.below {S:Nat→Prop} {B0 B:Nat} {d:Sl} {v:Value} {us:List Value} {w w':World} (h:sO S B0 B d v us w) (hb:Below w.heap.size w w'):sO S B0 B d v us w':=⟨own_below h.own hb,h.cs.keep fun x hx _=>hb.block x hx⟩
theorem sO.sl {S:Nat→Prop} {B0 B:Nat} {d:Sl} {v:Value} {us:List Value} {w:World} (h:sO S B0 B d v us w) (hB:B0≤B) (hd:d.len≤100000):aQ w (fun x=>S x∨B0≤x) d v:=by
 obtain⟨A,c,rfl,hr,hc⟩:=bI.own (S:=fun x=>S x∨B0≤x) h.own (fun g hg=> .inr (Nat.le_trans hB (bD h.own hg)));exact⟨A,c,us,rfl,hd,hc,hr,h.cs.mono fun _ _ h=>h.1⟩
theorem sO.push {S:Nat→Prop} {B0 B:Nat} {d:Sl} {v v':Value} {us:List Value} {w wb w4:World} {h:Hd} {t e:Sl} {ve vf vc va vt vl:Value} (hO:sO S B0 B d v us w) (hh:dn w (fun x=>(S x∨B0≤x)∧some x≠v.ownBlock) h ve vf vc va)
  (ht:aQ w (fun x=>(S x∨B0≤x)∧some x≠v.ownBlock) t vt) (he:aQ w (fun x=>(S x∨B0≤x)∧some x≠v.ownBlock) e vl) (hb:Below w.heap.size w wb) (hg:wb.grownBy w4 v.ownBlock) (hv:v'.ownBlock=v.ownBlock∨v'.ownBlock=some wb.heap.size)
  (ho:w4.ownsRow B 63 10 v' (d.len+1) (us++(h.cells ve vf vc va vt vl).toList)):sO S B0 B (d.snoc h t e) v' (us++(h.cells ve vf vc va vt vl).toList) w4:=by
 refine⟨jL ho (Sl.nR _ _ _ _).symm,?_⟩;have h3:=(hO.cs.snoc hh ht he).keep fun x hx _=>hb.block x hx
 have h5:aN wb (fun x=>((S x∨B0≤x)∧some x≠v.ownBlock)∧((S x∨B0≤x)∧some x≠v'.ownBlock)) _ _:=h3.mono fun x hx hS=>⟨hS,hS.1,by
  rcases hv with hv|hv
  ·rw[hv];exact hS.2
  ·rw[hv];simp;omega⟩
 exact(h5.keep fun x hx hS=>hg.block x hx hS.1.2).mono fun _ _ hS=>hS.2
theorem wU (F:FnV) (l0:Sl) (ih:∀l',l'.dep<l0.dep→RSt F l'):RSt F l0:=by
 intro w v S hF hv;obtain⟨iA,hiA,hzA0,hzA1,hzA2⟩:=info_parts Tryz.clStmt;obtain⟨A,c,us0,e,hlen,hlc,hR⟩:=hv.rest;subst e;obtain⟨R,hRR⟩:∃R,R=aO F.K l0:=⟨_,rfl⟩;rw[←hRR];obtain⟨n,hn⟩:∃y,y=l0.len:=⟨_,rfl⟩;rw[←hn]at hlen hlc⊢;obtain⟨w1,hw1⟩:∃y,y=w.alloc (.cells F.cells 26):=⟨_,rfl⟩;obtain⟨gp,hgp⟩:∃y,y=w.heap.size:=⟨_,rfl⟩
 have hB1:=RfB.new hF;rw[←hw1,←hgp]at hB1;have h0:Hid (dQ w S A 0 l0 us0):=Lib.hid hR;have hn0:Hid (0+l0.len=n):=Lib.hid (by rw[hn];simp);have hd0:Hid (l0.dep≤l0.dep):=Lib.hid (Nat.le_refl _)
 have hR0:Hid (r_ .nil (aO F.K l0)=R):=Lib.hid (by
  rw[hRR];unfold r_
  cases hr:(aO F.K l0).2 with
  |some a=>
   have:(aO F.K l0).1= .nil:=by
    cases l0 with
    |nil=>rfl
    |cons h t e r=>
     cases h1:(aS F.K h).2 with
     |false=>rw[qQ h1]
     |true=>
      cases h2:(aO F.K (gy F.K h t)).2 with
      |some b=>rw[wJ h1 h2]
      |none=>
       cases h3:(aO F.K (gy F.K h e)).2 with
       |some b=>rw[wK h1 h2 h3]
       |none=>
        have h4:=tZ (r:=r) .nil h1 h2 h3;unfold r_ at h4;rw[hr]at h4
        cases h5:(aO F.K r).2 with
        |some b=>
         unfold aO;rw[if_pos h1];unfold gy at h2 h3;by_cases ht:turned F.K h=true
         ·rw[if_pos ht];simp only[h5]
         ·rw[if_neg ht]at h2 h3⊢;simp only[h2,h3,h5]
        |none=>rw[h5]at h4;cases h4
   simp only;rw[←this,←hr]
  |none=>simp only[Sl.app];rw[←hr])
 have hO0:Hid (sO S w.heap.size w1.heap.size .nil (.slice none 0 0) [] w1):=Lib.hid ⟨World.ownsRow_nil _ _ _ _,rfl⟩;have hw01:=Lib.hid hB1.bl.size;have hgw:=Lib.hid hB1.hg.lt;have hB1':=Lib.hid hB1;have hih:=Lib.hid ih;have hF':=Lib.hid hF;have hfo:=Lib.hid hw1.symm;have jR:=Lib.hid hgp.symm;unfold FnV.cells at hfo⊢;clear hv hR hn ih hw1 hgp hB1 hF hRR
 go_enter Tryz.func45,Tryz.ntmps45;go_upto_region 1 with(fail);rw[hfo.out,jR.out];clear hfo jR;go_wp2_with fail
 go_loopw [6,7] (fun u6 i wl=>∃(k:Nat) (ls d:Sl) (vs us:List Value),k≤n∧i= .int .i64 k∧Hid (dQ w S A k ls vs)∧Hid (sO S w.heap.size w1.heap.size d u6 us wl)∧Hid (r_ d (aO F.K ls)=R)∧Hid (k+ls.len=n)∧Hid (ls.dep≤l0.dep)∧Hid (RfB F gp w wl)∧Hid (d.len=k)∧Hid (w1.heap.size≤wl.heap.size)) (fun _ i _=>n-(intOf i).toNat)
 case atStart=>exact⟨0,l0,.nil,us0,[],by omega,rfl,h0,hO0,hR0,hn0,hd0,hB1',Lib.hid rfl,Lib.hid (Nat.le_refl _)⟩
 clear h0 hO0 hR0 hn0 hd0 hB1';obtain⟨k,ls,d,vs,us,hkn,rfl,hR,hO,hRe,hln,hdp,hB,hdl,hsz⟩:=hrel;rename World=>wl
 cases ls with
 |nil=>
  have hkn2:k=n:=by have:=hln.out;simp[Sl.len]at this;exact this
  subst hkn2;have hRR:Hid (R=(d,none)):=Lib.hid (by rw[←hRe.out];exact Ef d);have hSl:=Lib.hid (hO.out.sl hw01.out (by rw[hdl.out];exact hlen));clear hR hO hRe;go_wp2_with fail
  go_ret2
  exact⟨u6,by rw[hRR.out];rfl,by rw[hRR.out];exact hSl.out,hB.out.bl⟩
 |cons h t e r=>
  have hlt:k<n:=by have:=hln.out;simp only[Sl.len]at this;omega
  obtain⟨b,off,pe,pf,pc,Aa,ca,At,ct,Al,cl,us',hA,hh,ht,he,hc,hrest⟩:=hR.out.next;subst hA;have hrest':=Lib.hid hrest;have hdt:Hid (t.dep<l0.dep∧e.dep<l0.dep∧r.dep≤l0.dep∧0<l0.dep):=Lib.hid (by have:=hdp.out;rw[Sl.lU]at this;omega);have hrl:Hid (k+1+r.len=n):=Lib.hid (by have:=hln.out;simp only[Sl.len]at this;omega)
  obtain⟨Sx,hSx⟩:∃Sx:Nat→Prop,Sx=fun x=>(S x∨w.heap.size≤x)∧some x≠u6.ownBlock:=⟨_,rfl⟩
  have hin:∀x,x<w.heap.size→S x→Sx x:=fun x hx hs=>by rw[hSx];refine⟨.inl hs,fun e=> ?_⟩;have h1:=bD hO.out.own e.symm;have h2:=hw01.out;omega
  have hup:Hid (∀(wx:World) (x:Nat),wl.heap.size≤wx.heap.size→wx.heap.size≤x→Sx x):=Lib.hid fun wx x h1 h2=>by rw[hSx];exact⟨.inr (by have:=hB.out.bl.size;omega),FM hO.out.own (by omega)⟩
  have hSx':=Lib.hid hSx;obtain⟨wW,hwd⟩:∃y,y=wl.drew:=⟨_,rfl⟩
  have hbd:Below wl.heap.size wl wW:=by rw[hwd];exact(Below.refl _ wl).drew
  have hBW:=Lib.hid (hB.out.below hbd);have hOW:=Lib.hid (hO.out.below hbd);have hszW:=Lib.hid (show wl.heap.size≤wW.heap.size from hbd.size);have hin2:∀x,x<w.heap.size→S x→x<wW.heap.size∧Sx x:=fun x hx hs=>⟨Nat.lt_of_lt_of_le hx hBW.out.bl.size,hin x hx hs⟩;have hhW:=(hh.mono (S':=fun x=>x<wW.heap.size∧Sx x) hin2).keep fun x hx _=>hBW.out.bl.block x hx
  have htW:=(ht.mono (S':=fun x=>x<wW.heap.size∧Sx x) hin2).keep fun x hx _=>hBW.out.bl.block x hx;have heW:=(he.mono (S':=fun x=>x<wW.heap.size∧Sx x) hin2).keep fun x hx _=>hBW.out.bl.block x hx;obtain⟨na,hna1⟩:∃y,y=h.args.length:=⟨_,rfl⟩;obtain⟨nt,hnt1⟩:∃y,y=t.len:=⟨_,rfl⟩;obtain⟨nl,hnl1⟩:∃y,y=e.len:=⟨_,rfl⟩;rw[←hna1]at hhW;rw[←hnt1]at htW
  rw[←hnl1]at heW
  have hq:∀(wx:World),Below wW.heap.size wW wx→∀j (hj:j<10),wx.cell? ⟨b,off+k*10+j,none⟩=some ((stC h pe pf pc Aa At Al na ca nt ct nl cl)[j]'hj):=fun wx hx j hj=>by have h1:=((hBW.out.below (hx.mono (Nat.le_refl _))).bl.cell (p:=⟨b,off+k*10+j,none⟩) (lt_of_cell (hc j hj))).trans (hc j hj);rw[h1];subst hna1 hnt1 hnl1;rfl
  have hfc:Hid (∀wx,Below wW.heap.size wW wx→(wx.cell? ⟨gp,0,none⟩=some (.string (ay F.nm))∧wx.cell? ⟨gp,1,none⟩=some (.slice F.A1 F.ps.length F.c1)∧wx.cell? ⟨gp,2,none⟩=some (.slice F.A2 F.ls.length F.c2)∧wx.cell? ⟨gp,3,none⟩=some (.slice F.A3 F.n3 F.c3)∧gp<wx.heap.size)∧
    wx.cell? ⟨b,off+k*10,none⟩=some (.int .i64 h.k)∧wx.cell? ⟨b,off+k*10+1,none⟩=some (.string (ay h.x))∧wx.cell? ⟨b,off+k*10+2,none⟩=some (.string (ay h.y))∧wx.cell? ⟨b,off+k*10+3,none⟩=some (.pointer pe)∧wx.cell? ⟨b,off+k*10+4,none⟩=some (.pointer pf)∧wx.cell? ⟨b,off+k*10+5,none⟩=some (.pointer pc)∧wx.cell? ⟨b,off+k*10+6,none⟩=some (.slice Aa na ca)∧wx.cell? ⟨b,off+k*10+7,none⟩=some (.slice At nt ct)∧wx.cell? ⟨b,off+k*10+8,none⟩=some (.slice Al nl cl)∧wx.cell? ⟨b,off+k*10+9,none⟩=some (.int .i64 h.at_)∧b<wx.heap.size):=
   Lib.hid fun wx hx=>⟨(hBW.out.below hx).facts,hq wx hx 0 (by decide),hq wx hx 1 (by decide),hq wx hx 2 (by decide),hq wx hx 3 (by decide),hq wx hx 4 (by decide),hq wx hx 5 (by decide),hq wx hx 6 (by decide),hq wx hx 7 (by decide),hq wx hx 8 (by decide),hq wx hx 9 (by decide),lt_of_cell (hq wx hx 9 (by decide))⟩
  have hcall:Hid (∀(wx:World) (γ1:Option Nat),Below wW.heap.size wW wx→(∀g,γ1=some g→wW.heap.size≤g∧g<wx.heap.size)→Calls Tryz.prog 93 #[.agg #[.string (ay F.nm),.slice F.A1 F.ps.length F.c1,.slice F.A2 F.ls.length F.c2,.slice F.A3 F.n3 F.c3],.agg #[.int .i64 h.k,.string (ay h.x),.string (ay h.y),.pointer pe,.pointer pf,.pointer pc,.slice Aa na ca,.slice At nt ct,.slice Al nl cl,.int .i64 h.at_]] wx fun e' w1=>∃z:Zs,e'= .returned (.tuple #[.agg z.cells,.bool (aS F.K h).2])∧Below wx.heap.size wx w1∧OkZ Sx F.K h t e z w1 γ1):=
   Lib.hid fun wx γ1 hx hγ=>by
    refine(AQ F wx h pe pf pc Aa At Al na ca nt ct nl cl (fun x=>x<wW.heap.size∧Sx x) (hBW.out.below hx).ok (hhW.keep fun x hx1 _=>hx.block x hx1)).mono ?_;rintro e' w1 ⟨h',pe',pf',pc',Aa',na',ca',At',nt',ct',Al',nl',cl',he',hb1,hok⟩
    have hFr:∀x,(x<wW.heap.size∧Sx x)∨wx.heap.size≤x→Fre Sx γ1 x:=fun x hx1=>by
     rcases hx1 with⟨h1,h2⟩|h1
     ·exact⟨h2,fun e1=>by have:=(hγ x e1).1;omega⟩
     ·exact⟨hup.out wx x (Nat.le_trans hszW.out hx.size) h1,fun e1=>by have:=(hγ x e1).2;omega⟩
    refine⟨⟨h',pe',pf',pc',Aa',na',ca',At',nt',ct',Al',nl',cl'⟩,he',hb1,fun hs=> ?_⟩;obtain⟨e1,hd1,ht1,hf1⟩:=hok hs;refine⟨e1,hd1.mono fun x _ hx1=>hFr x hx1,?_,?_⟩
    ·cases htn:turned F.K h with
     |true=>
      obtain⟨a1,a2,a3,-⟩:=ht1 htn;simp only[gy,htn,if_true,a1,a2,a3];exact aQ.nil_ _ _
     |false=>
      obtain⟨a1,a2,a3,-⟩:=hf1 htn;simp only[gy,htn,a1,a2,a3];exact((htW.keep fun x hx1 _=>hx.block x hx1).mono fun x _ hx1=>hFr x (.inl hx1)).below hb1
    ·cases htn:turned F.K h with
     |true=>
      obtain⟨-,-,-,a1,a2,a3⟩:=ht1 htn;simp only[gy,htn,if_true,a1,a2,a3];exact aQ.nil_ _ _
     |false=>
      obtain⟨-,-,-,a1,a2,a3⟩:=hf1 htn;simp only[gy,htn,a1,a2,a3];exact((heW.keep fun x hx1 _=>hx.block x hx1).mono fun x _ hx1=>hFr x (.inl hx1)).below hb1
  have hq0:=hq;clear hq;have hfd:=Lib.hid hwd.symm;have hbq:=Lib.hid (lt_of_cell (hq0 wW (Below.refl _ _) 9 (by decide)));clear hq0 hin hin2 hSx hwd hbd hhW htW heW hh ht he hc hrest hnt1 hnl1 hna1 hO hR;go_wp2_with fail
  refine qM ((eqv (.agg #[.string (ay F.nm),.slice F.A1 F.ps.length F.c1,.slice F.A2 F.ls.length F.c2,.slice F.A3 F.n3 F.c3]))::(eqv (.slice (some ⟨b,off,none⟩) n c))::(eqv (.int .i64 k))::(eqv (.pointer (some ⟨b,off+k*10,none⟩)))::(eqv (.agg #[.int .i64 h.k,.string (ay h.x),.string (ay h.y),.pointer pe,.pointer pf,.pointer pc,.slice Aa na ca,.slice At nt ct,.slice Al nl cl,.int .i64 h.at_]))::(fun L (W:World×Gz) v=>L 5=true∧∃z:Zs,W.2.2=some z∧v= .tuple #[.agg z.cells,.bool (aS F.K h).2])::(fun L (W:World×Gz) v=>L 5=true∧∃z:Zs,W.2.2=some z∧v= .tuple #[.agg z.cells,.bool (aS F.K h).2])::(fun L (W:World×Gz) v=>L 5=true∧∃z:Zs,W.2.2=some z∧v= .agg z.cells)::(eqv (.bool (aS F.K h).2))::(fun L (W:World×Gz) v=>∃g,W.2.1=some g∧v= .pointer (some ⟨g,0,none⟩))::(fun _ _ _=>True)::(eqv (.bool (aS F.K h).2))::[])
   ((rn1 2)::(rn1 1)::(rn1 7)::⟨[(21,some 1),(22,some 2)],0,[]⟩::(rd1 23 3)::⟨[(20,some 0),(24,some 4)],0,[]⟩::(rd1 25 5)::(rd1 19 6)::(rd1 19 6)::⟨[],0,[]⟩::⟨[(8,some 9),(26,some 7)],0,[]⟩::(rd1 27 8)::[])
   (no::no::no::no::no::no::no::no::so 9::so 11::no::no::no::no::no::no::no::no::no::so 6::so 0::so 1::so 2::so 3::so 4::so 5::so 7::so 8::[])
   (fun L (W:World×Gz)=>CSt Sx F.K h t e wW L W) (fun i (W W':World×Gz)=>GSt i W W') ?mixK5sts ?okK5sts ?tabK5sts ?frK5sts ?inK5sts ?keptK5sts ((none,none):Gz) ?startK5sts ?eachK5sts ?finK5sts
  case mixK5sts|okK5sts|tabK5sts|frK5sts=>kernel_rfl
  case inK5sts=>rfl
  case keptK5sts=>exact⟨fun _ _ _ _ _ _ _ _ _ _ _ h=>h,fun _ _ _ _ _ _ _ _ _ _ _ h=>h,fun _ _ _ _ _ _ _ _ _ _ _ h=>h,fun _ _ _ _ _ _ _ _ _ _ _ h=>h,fun _ _ _ _ _ _ _ _ _ _ _ h=>h,fun i hne hrd L W W' v hLi hC hC' hG ⟨h5,z,h1,h2⟩=>by
     have n5:i≠5:=fun e=>by subst e;rw[h5]at hLi;cases hLi
     exact⟨by simp[h5],z,(hG.2 n5).trans h1,h2⟩,fun i hne hrd L W W' v hLi hC hC' hG ⟨h5,z,h1,h2⟩=>by
     have n5:i≠5:=fun e=>by subst e;rw[h5]at hLi;cases hLi
     exact⟨by simp[h5],z,(hG.2 n5).trans h1,h2⟩,fun i hne hrd L W W' v hLi hC hC' hG ⟨h5,z,h1,h2⟩=>by
     have n5:i≠5:=fun e=>by subst e;rw[h5]at hLi;cases hLi
     exact⟨by simp[h5],z,(hG.2 n5).trans h1,h2⟩,fun _ _ _ _ _ _ _ _ _ _ _ h=>h,fun i hne hrd L W W' v hLi hC hC' hG ⟨g,h1,h2⟩=>⟨g,(hG.1 hne).trans h1,h2⟩,fun _ _ _ _ _ _ _ _ _ _ _ h=>h,fun _ _ _ _ _ _ _ _ _ _ _ h=>h,trivial⟩
  case startK5sts=>exact CSt.start (by have e0:wW=wl.drew:=hfd.out.symm;rw[e0];exact Below.refl _ _) rfl rfl rfl
  case eachK5sts=>
   repeat' first|exact trivial|refine And.intro ?_ ?_
   ·intro w γ L f hC hLi hLd hLn ⟨a,_⟩;change _=_ at a;refine au.live rfl ?_;obtain⟨⟨p0,p1,p2,p3,pl⟩,q0,q1,q2,q3,q4,q5,q6,q7,q8,q9,ql⟩:=hfc.out w hC.bel;refine bZ γ ?_;obtain⟨ev,ec,ef⟩:=evs f;refine aj ?_ (hC.other (i:=0) (by decide) (by decide) (by decide) (Below.refl _ _)) ⟨fun _=>rfl,fun _=>rfl⟩ rfl;go_simp
   ·intro w γ L f hC hLi hLd hLn ⟨d,_⟩;refine au.live rfl ?_;refine bZ γ ?_;exact aj (v:=f 1) rfl (hC.other (i:=1) (by decide) (by decide) (by decide) (Below.refl _ _)) (⟨fun _=>rfl,fun _=>rfl⟩) d
   ·intro w γ L f hC hLi hLd hLn ⟨d,_⟩;refine au.live rfl ?_;refine bZ γ ?_;exact aj (v:=f 7) rfl (hC.other (i:=2) (by decide) (by decide) (by decide) (Below.refl _ _)) (⟨fun _=>rfl,fun _=>rfl⟩) d
   ·intro w γ L f hC hLi hLd hLn ⟨a,b,_⟩;change _=_ at a b;refine au.live rfl ?_;obtain⟨⟨p0,p1,p2,p3,pl⟩,q0,q1,q2,q3,q4,q5,q6,q7,q8,q9,ql⟩:=hfc.out w hC.bel;refine bZ γ ?_;obtain⟨ev,ec,ef⟩:=evs f;refine aj ?_ (hC.other (i:=3) (by decide) (by decide) (by decide) (Below.refl _ _)) ⟨fun _=>rfl,fun _=>rfl⟩ rfl;go_simp
   ·intro w γ L f hC hLi hLd hLn ⟨a,_⟩;change _=_ at a;refine au.live rfl ?_;obtain⟨⟨p0,p1,p2,p3,pl⟩,q0,q1,q2,q3,q4,q5,q6,q7,q8,q9,ql⟩:=hfc.out w hC.bel;refine bZ γ ?_;obtain⟨ev,ec,ef⟩:=evs f;refine aj ?_ (hC.other (i:=4) (by decide) (by decide) (by decide) (Below.refl _ _)) ⟨fun _=>rfl,fun _=>rfl⟩ rfl;go_simp
   ·intro w γ L f hC hLi hLd hLn ⟨a,b,_⟩;change _=_ at a b;refine au.live rfl ?_
    have l10:L 10=false:=by
     cases q:L 10 with
     |false=>rfl
     |true=>have:=(hC.ord q).2;rw[hLi]at this;cases this
    obtain⟨ev,ec,ef⟩:=evs f
    have hz:=hcall.out w γ.1 hC.bel (fun g hg=>by
     cases q:L 9 with
     |false=>have:=hC.no q;simp only at this;rw[this]at hg;cases hg
     |true=>
      obtain⟨g',a,b,c,-⟩:=hC.made q;simp only at a;rw[a]at hg;cases hg
      exact⟨b,c⟩)
    refine sW (f:=93) (args:= #[.agg #[.string (ay F.nm),.slice F.A1 F.ps.length F.c1,.slice F.A2 F.ls.length F.c2,.slice F.A3 F.n3 F.c3],.agg #[.int .i64 h.k,.string (ay h.x),.string (ay h.y),.pointer pe,.pointer pf,.pointer pc,.slice Aa na ca,.slice At nt ct,.slice Al nl cl,.int .i64 h.at_]]) (w:=w) (by go_simp) hz (fun e w1 ⟨z,he,hB,hk⟩=>⟨(γ.1,some z),_,he,hC.call l10 z hB hk,⟨fun _=>rfl,fun h=>absurd rfl h⟩,by simp,z,rfl,rfl⟩)
   ·intro w γ L f hC hLi hLd hLn ⟨d,_⟩;refine au.live rfl ?_;refine bZ γ ?_;exact aj (v:=f 25) rfl (hC.other (i:=6) (by decide) (by decide) (by decide) (Below.refl _ _)) (⟨fun _=>rfl,fun _=>rfl⟩) d
   ·intro w γ L f hC hLi hLd hLn ⟨d19,_⟩;refine au.live rfl ?_;obtain⟨h5,z,hz,e19⟩:=d19;refine bZ γ ?_;obtain⟨ev,ec,ef⟩:=evs f;refine aj (v:= .agg z.cells) ?_ (hC.other (i:=7) (by decide) (by decide) (by decide) (Below.refl _ _)) ⟨fun _=>rfl,fun _=>rfl⟩ ⟨by simp[h5],z,hz,rfl⟩;go_simp
   ·intro w γ L f hC hLi hLd hLn ⟨d19,_⟩;refine au.live rfl ?_;obtain⟨h5,z,hz,e19⟩:=d19;refine bZ γ ?_;obtain⟨ev,ec,ef⟩:=evs f;refine aj ?_ (hC.other (i:=8) (by decide) (by decide) (by decide) (Below.refl _ _)) ⟨fun _=>rfl,fun _=>rfl⟩ rfl;go_simp
   ·intro w γ L f hC hLi hLd hLn hF;refine au.live rfl ?_;refine bZ (some w.heap.size,γ.2) ?_;obtain⟨ev,ec,ef⟩:=evs f;refine aj (w':=w.alloc (.cells zeroS 63)) (v:= .pointer (some ⟨w.heap.size,0,none⟩)) (by unfold zeroS;go_simp) (hC.alloc hLi) ⟨fun h=>absurd rfl h,fun _=>rfl⟩ ⟨_,rfl,rfl⟩
   ·intro w γ L f hC hLi hLd hLn ⟨d8,d26,_⟩;refine au.live rfl ?_;obtain⟨g,hg,e8⟩:=d8;obtain⟨h5,z,hz,e26⟩:=d26;have hg:γ.1=some g:=hg;have hz:γ.2=some z:=hz;have l9:=hLd 9 (by decide);obtain⟨g',a,b',c',hZ⟩:=hC.made l9;obtain rfl:g=g':=Option.some.inj (hg.symm.trans a);have hZ:=hZ hLi;have c0:=hZ.cell 0;have z0:=hZ.frozen 0;have c1:=hZ.cell 1;have z1:=hZ.frozen 1;have c2:=hZ.cell 2;have z2:=hZ.frozen 2;have c3:=hZ.cell 3;have z3:=hZ.frozen 3;have c4:=hZ.cell 4;have z4:=hZ.frozen 4;have c5:=hZ.cell 5;have z5:=hZ.frozen 5;have c6:=hZ.cell 6;have z6:=hZ.frozen 6;have c7:=hZ.cell 7;have z7:=hZ.frozen 7;have c8:=hZ.cell 8;have z8:=hZ.frozen 8;have c9:=hZ.cell 9;have z9:=hZ.frozen 9;simp[zeroS]at c0 c1 c2 c3 c4 c5 c6 c7 c8 c9;unfold Zs.cells stC at e26;refine bZ γ ?_;obtain⟨ev,ec,ef⟩:=evs f;refine dK (w':=nV w g (.int .i64 z.h.k) (.string (ay z.h.x)) (.string (ay z.h.y)) (.pointer z.pe) (.pointer z.pf) (.pointer z.pc) (.slice z.Aa z.na z.ca) (.slice z.At z.nt z.ct) (.slice z.Al z.nl z.cl) (.int .i64 z.h.at_)) ?_ (hC.stored hLi l9 h5 hg hz) ⟨fun _=>rfl,fun _=>rfl⟩ trivial;unfold nV;go_simp
   ·intro w γ L f hC hLi hLd hLn ⟨d,_⟩;refine au.live rfl ?_;refine bZ γ ?_;exact aj (v:=f 27) rfl (hC.other (i:=11) (by decide) (by decide) (by decide) (Below.refl _ _)) (⟨fun _=>rfl,fun _=>rfl⟩) d
  intro x w' γ hC hV
  obtain⟨gS,hgS,e8⟩:=hV 9 _ rfl rfl;have e9:=hV 11 _ rfl rfl;clear hV hfd;obtain⟨g2,z,hg2,hz,hHo⟩:=hC.st rfl;obtain rfl:gS=g2:=Option.some.inj (hgS.symm.trans hg2);obtain⟨z2,hz2,hOk⟩:=hC.cl rfl;obtain rfl:z=z2:=Option.some.inj (hz.symm.trans hz2);obtain⟨g3,hg3,hg4,hg5,-⟩:=hC.made rfl;obtain rfl:gS=g3:=Option.some.inj (hgS.symm.trans hg3);simp only at hgS
  rw[hgS]at hOk;have hbl:=Lib.hid hC.bel;replace hHo:=Lib.hid hHo;replace hOk:=Lib.hid hOk;replace hg4:=Lib.hid hg4;clear hC hg2 hg3 hz hz2 hgS;rename World=>w5;obtain⟨v8,hv8⟩:∃y,y=x 9:=⟨_,rfl⟩;obtain⟨v9,hv9⟩:∃y,y=x 11:=⟨_,rfl⟩;simp only[framed];rw[←hv8,←hv9];rw[←hv8]at e8;rw[←hv9]at e9;clear hv8 hv9;subst e8 e9
  cases hs:(aS F.K h).2 with
  |false=>
   obtain⟨⟨p0,p1,p2,p3,pl⟩,-,-,-,-,-,-,-,-,-,q9,ql⟩:=hfc.out w5 hbl.out;have hF2:Hid (R=(.nil,some h.at_)):=Lib.hid (by rw[←hRe.out,qQ hs];rfl);have hs':=Lib.hid hs;clear hs hcall hfc;go_wp2_with fail;go_quiet (fail);go_wp2_with fail
   go_ret2
   rw[hF2.out];exact⟨_,rfl,aQ.nil_ _ _,(hBW.out.below hbl.out).bl.trans ((below_drewN (Below.refl _ _) _).mono (Nat.le_trans hw01.out (Nat.le_trans hsz.out (Nat.le_trans hszW.out hbl.out.size))))⟩
  |true=>
   obtain⟨zh,zpe,zpf,zpc,zAa,zna,zca,zAt,znt,zct,zAl,znl,zcl⟩:=z;obtain⟨ez,hHd,hTt,hTe⟩:=hOk.out hs;simp only at ez hHd hTt hTe;simp only[Zs.cells,stC]at hHo
   have hdT:(gy F.K h t).dep<l0.dep∧(gy F.K h e).dep<l0.dep:=by
    unfold gy
    cases turned F.K h with
    |true=>exact⟨hdt.out.2.2.2,hdt.out.2.2.2⟩
    |false=>exact⟨hdt.out.1,hdt.out.2.1⟩
   have hR5:=hBW.out.below hbl.out;have hup5:∀x,w5.heap.size≤x→Fre Sx (some gS) x:=fun x hx=>⟨hup.out w5 x (Nat.le_trans hszW.out hbl.out.size) hx,fun e1=>by have:=hHo.out.lt;cases e1;omega⟩;obtain⟨⟨lT,aT⟩,hRT⟩:∃y,y=aO F.K (gy F.K h t):=⟨_,rfl⟩;obtain⟨⟨lE,aE⟩,hRE⟩:∃y,y=aO F.K (gy F.K h e):=⟨_,rfl⟩
   have hcT:=hih.out (gy F.K h t) hdT.1 w5 (.slice zAt znt zct) (Fre Sx (some gS)) hR5.ok hTt;have hcE:∀wx,Below w5.heap.size w5 wx→_:=fun wx hx=>hih.out (gy F.K h e) hdT.2 wx (.slice zAl znl zcl) (Fre Sx (some gS)) (hR5.below hx).ok (hTe.below hx);rw[←hRT]at hcT;rw[←hRE]at hcE
   have h2:(aO F.K (gy F.K h t)).2=aT:=by rw[←hRT]
   have h3:(aO F.K (gy F.K h e)).2=aE:=by rw[←hRE]
   have h4:(aO F.K (gy F.K h t)).1=lT:=by rw[←hRT]
   have h5:(aO F.K (gy F.K h e)).1=lE:=by rw[←hRE]
   clear hRT hRE;obtain⟨⟨p0,p1,p2,p3,pl⟩,-⟩:=hfc.out w5 hbl.out;have c7:w5.cell? ⟨gS,7,none⟩=some (.slice zAt znt zct):=hHo.out.cell 7;have hgl:=hHo.out.lt;unfold FnV.cells at hcT hcE;have hs':=Lib.hid hs;replace hcE:=Lib.hid hcE;replace hup5:=Lib.hid hup5;replace hHd:=Lib.hid hHd;replace ez:=Lib.hid ez;replace h3:=Lib.hid h3;replace h4:=Lib.hid h4;replace h5:=Lib.hid h5
   replace hR5:=Lib.hid hR5;clear hs hcall hTt hTe hOk hdT
   cases aT with
   |some a=>
    have hF2:Hid (R=(.nil,some a)):=Lib.hid (by rw[←hRe.out,wJ hs'.out h2];rfl)
    have hge:(0:Int)≤a:=by omega
    simp only[atI]at hcT;replace hcT:=Lib.hid hcT;clear h2;go_wp2_with fail;refine hcT.out.mono ?_;rintro e6 w6 ⟨vT,rfl,-,hb6⟩;have hB6:=Lib.hid (hR5.out.below hb6).bl;clear hb6 p0 p1 p2 p3 pl c7;go_wp2_with fail
    go_ret2
    rw[hF2.out];exact⟨_,rfl,aQ.nil_ _ _,hB6.out⟩
   |none=>
    simp only[atI]at hcT;replace hcT:=Lib.hid hcT;replace h2:=Lib.hid h2;go_wp2_with fail;refine hcT.out.mono ?_;clear hcT;rintro e6 w6 ⟨vT,rfl,hT6,hb6⟩;clear p0 p1 p2 p3 pl c7;have hR6:=hR5.out.below hb6;obtain⟨p0,p1,p2,p3,pl⟩:=hR6.facts;have hcE6:=hcE.out w6 hb6;have hH6:=hHo.out.below hb6 hHo.out.lt;have c8:w6.cell? ⟨gS,8,none⟩=some (.slice zAl znl zcl):=hH6.cell 8
    have hgl6:=hH6.lt;replace hT6:=Lib.hid hT6;replace hR6:=Lib.hid hR6;replace hH6:=Lib.hid hH6;replace hb6:=Lib.hid hb6;have hB6:=Lib.hid hR6.out.bl
    cases aE with
    |some a=>
     have hF2:Hid (R=(.nil,some a)):=Lib.hid (by rw[←hRe.out,wK hs'.out h2.out h3.out];rfl)
     have hge:(0:Int)≤a:=by omega
     simp only[atI]at hcE6;replace hcE6:=Lib.hid hcE6;clear hcE h3;go_wp2_with fail;refine hcE6.out.mono ?_;rintro e7 w7 ⟨vE,rfl,-,hb7⟩;have hB7:=Lib.hid (hR6.out.below hb7).bl;clear hb7 p0 p1 p2 p3 pl c8;go_wp2_with fail
     go_ret2
     rw[hF2.out];exact⟨_,rfl,aQ.nil_ _ _,hB7.out⟩
    |none=>
     simp only[atI]at hcE6;replace hcE6:=Lib.hid hcE6;clear hcE;go_wp2_with fail;refine hcE6.out.mono ?_;clear hcE6;rintro e7 w7 ⟨vE,rfl,hE7,hb7⟩;clear p0 p1 p2 p3 pl c8;have hH7:=hH6.out.below hb7 hH6.out.lt;have hb57:=hb6.out.trans (hb7.mono hb6.out.size);have hbW7:=hbl.out.trans (hb57.mono hbl.out.size)
     have hT7:=(hT6.out.mono (S':=Fre Sx (some gS)) (fun x _ hx=>hx.elim id fun h1=>hup5.out x h1)).below hb7;have hE7':=hE7.mono (S':=Fre Sx (some gS)) (fun x _ hx=>hx.elim id fun h1=>hup5.out x (Nat.le_trans hb6.out.size h1));have hHd7:=hHd.out.below hb57;obtain⟨AT,cT,eT⟩:=aQ.jr hT7;obtain⟨AE,cE,eE⟩:=aQ.jr hE7';rw[eT]at hT7;rw[eE]at hE7';rw[eT,eE]
     have hW8:Writes [some gS] w7 ((w7.setCell ⟨gS,7,none⟩ (.slice AT lT.len cT)).setCell ⟨gS,8,none⟩ (.slice AE lE.len cE)):=(Writes.store w7 (by simp) _).trans (Writes.store _ (by simp) _);have hH8:=(hH7.store 7 (.slice AT lT.len cT)).store 8 (.slice AE lE.len cE);have hbW8:=hbW7.trans (hW8.below hbW7.size (fun k hk=>by simp at hk;rw[hk];exact hg4.out))
     have hk8:∀x,x<w7.heap.size→Fre Sx (some gS) x→((w7.setCell ⟨gS,7,none⟩ (.slice AT lT.len cT)).setCell ⟨gS,8,none⟩ (.slice AE lE.len cE)).heap[x]? =w7.heap[x]? :=fun x hx hS=>hW8.block x hx (by simp;exact fun e1=>hS.2 (by rw[e1]));have hT8:=hT7.keep hk8;have hE8:=hE7'.keep hk8;have hHd8:=hHd7.keep hk8;have z7:=hH7.frozen 7
     have z8:=(hH7.store 7 (.slice AT lT.len cT)).frozen 8;have z8':=hH7.frozen 8;have hgl7:=hH7.lt;have c7:w7.cell? ⟨gS,7,none⟩=some (.slice zAt znt zct):=hH7.cell 7;have c8:w7.cell? ⟨gS,8,none⟩=some (.slice zAl znl zcl):=hH7.cell 8;obtain⟨w8,hw8⟩:∃y,y=(w7.setCell ⟨gS,7,none⟩ (.slice AT lT.len cT)).setCell ⟨gS,8,none⟩ (.slice AE lE.len cE):=⟨_,rfl⟩
     rw[←hw8]at hH8 hbW8 hT8 hE8 hHd8;have hR8:=Lib.hid (hBW.out.below hbW8);have hO8:=Lib.hid (hOW.out.below hbW8);have hs8:=Lib.hid (show w1.heap.size≤w8.heap.size from Nat.le_trans hsz.out (Nat.le_trans hszW.out hbW8.size));simp at hH8;replace hT8:=Lib.hid hT8;replace hE8:=Lib.hid hE8;replace hHd8:=Lib.hid hHd8;replace hH8:=Lib.hid hH8;replace hw8:=Lib.hid hw8
     clear hT7 hE7' hE7 hHd7 hW8 hbW8 hk8 hbW7 hb57 hb7 hH7 eT eE;go_upto_region 15 with(fail);rw[←hw8.out];clear z7 z8 z8' c7 c8 hgl7 hw8;have c0:w8.cell? ⟨gS,0,none⟩=some (.int .i64 zh.k):=hH8.out.cell 0;have c1:w8.cell? ⟨gS,1,none⟩=some (.string (ay zh.x)):=hH8.out.cell 1;have c2:w8.cell? ⟨gS,2,none⟩=some (.string (ay zh.y)):=hH8.out.cell 2
     have c3:w8.cell? ⟨gS,3,none⟩=some (.pointer zpe):=hH8.out.cell 3;have c4:w8.cell? ⟨gS,4,none⟩=some (.pointer zpf):=hH8.out.cell 4;have c5:w8.cell? ⟨gS,5,none⟩=some (.pointer zpc):=hH8.out.cell 5;have c6:w8.cell? ⟨gS,6,none⟩=some (.slice zAa zna zca):=hH8.out.cell 6;have c7:w8.cell? ⟨gS,7,none⟩=some (.slice AT lT.len cT):=hH8.out.cell 7
     have c8:w8.cell? ⟨gS,8,none⟩=some (.slice AE lE.len cE):=hH8.out.cell 8;have c9:w8.cell? ⟨gS,9,none⟩=some (.int .i64 zh.at_):=hH8.out.cell 9;have hgl8:=hH8.out.lt;have hbn:=aA w8 (.cells #[.int .i64 zh.k,.string (ay zh.x),.string (ay zh.y),.pointer zpe,.pointer zpf,.pointer zpc,.slice zAa zna zca,.slice AT lT.len cT,.slice AE lE.len cE,.int .i64 zh.at_] 63)
     have hOn:=Lib.hid (hO8.out.below hbn)
     have hnews:Hid (∀(j:Nat) u,([.int .i64 zh.k,.string (ay zh.x),.string (ay zh.y),.pointer zpe,.pointer zpf,.pointer zpc,.slice zAa zna zca,.slice AT lT.len cT,.slice AE lE.len cE,.int .i64 zh.at_]:List Value)[j]? =some u→(w8.alloc (.cells #[.int .i64 zh.k,.string (ay zh.x),.string (ay zh.y),.pointer zpe,.pointer zpf,.pointer zpc,.slice zAa zna zca,.slice AT lT.len cT,.slice AE lE.len cE,.int .i64 zh.at_] 63)).cell? ((⟨w8.heap.size,0,none⟩:Addr).add j)=some u):=Lib.hid (fun j u hu=>by
      have hh:=Holds.new w8 63 #[.int .i64 zh.k,.string (ay zh.x),.string (ay zh.y),.pointer zpe,.pointer zpf,.pointer zpc,.slice zAa zna zca,.slice AT lT.len cT,.slice AE lE.len cE,.int .i64 zh.at_]
      have hadd:(⟨w8.heap.size,0,none⟩:Addr).add j=⟨w8.heap.size,j,none⟩:=by unfold Addr.add;split<;>simp_all
      rw[hadd,hh.cell]
      simpa using hu)
     have hone:Hid (∀u∈([.int .i64 zh.k,.string (ay zh.x),.string (ay zh.y),.pointer zpe,.pointer zpf,.pointer zpc,.slice zAa zna zca,.slice AT lT.len cT,.slice AE lE.len cE,.int .i64 zh.at_]:List Value),u.oneCell'=true):=Lib.hid (by simp;exact⟨rfl,rfl,rfl,rfl,rfl,rfl,rfl,rfl,rfl,rfl⟩)
     have FW:Hid (w1.heap.size≤(w8.alloc (.cells #[.int .i64 zh.k,.string (ay zh.x),.string (ay zh.y),.pointer zpe,.pointer zpf,.pointer zpc,.slice zAa zna zca,.slice AT lT.len cT,.slice AE lE.len cE,.int .i64 zh.at_] 63)).heap.size):=Lib.hid (Nat.le_trans hs8.out hbn.size);have hRn:=Lib.hid (hR8.out.below hbn)
     have hSS:∀x,x<w8.heap.size→Fre Sx (some gS) x→(S x∨w.heap.size≤x)∧some x≠u6.ownBlock:=fun x _ hx=>by have h1:=hx.1;rw[hSx'.out]at h1;exact h1
     have hT9:=Lib.hid (hT8.out.mono hSS);have hE9:=Lib.hid (hE8.out.mono hSS);have hH9:=Lib.hid (hHd8.out.mono hSS);have hO9:=hO8.out.own;rw[hdl.out]at hO9
     have hOm:Hid ((w8.alloc (.cells #[.int .i64 zh.k,.string (ay zh.x),.string (ay zh.y),.pointer zpe,.pointer zpf,.pointer zpc,.slice zAa zna zca,.slice AT lT.len cT,.slice AE lE.len cE,.int .i64 zh.at_] 63)).ownsRow w1.heap.size 63 10 u6 k us):=Lib.hid (own_below hO9 hbn)
     have hRe2:Hid (r_ (d.snoc zh lT lE) (aO F.K r)=R):=Lib.hid (by
      have e1:=tZ (K:=F.K) (h:=h) (t:=t) (e:=e) (r:=r) d hs'.out h2.out h3.out;rw[h4.out,h5.out,←ez.out]at e1;rw[←e1]
      exact hRe.out)
     replace hbn:=Lib.hid hbn;clear hO9 hSS hT8 hE8 hHd8 hH8 hOn hR8;go_wp2_with
      (at_builtin
       go_loud (refine wpList_append_own_at _ rfl (.tmp 59) (.tmp 61) 24 rfl w1.heap.size 63 iA _ 10 144 rfl hiA hzA0 hzA1 hzA2 rfl (by omega) u6 k us rfl hOm.out ⟨w8.heap.size,0,none⟩ 1 1 [.int .i64 zh.k,.string (ay zh.x),.string (ay zh.y),.pointer zpe,.pointer zpf,.pointer zpc,.slice zAa zna zca,.slice AT lT.len cT,.slice AE lE.len cE,.int .i64 zh.at_] rfl rfl hnews.out hone.out (by unfold maxLen;omega) (by omega) FW.out ?_)
       go_loud (
        intro v9 w9 ho9 hg9 _ hv9;have hO9:Hid (sO S w.heap.size w1.heap.size (d.snoc zh lT lE) v9 (us++ [.int .i64 zh.k,.string (ay zh.x),.string (ay zh.y),.pointer zpe,.pointer zpf,.pointer zpc,.slice zAa zna zca,.slice AT lT.len cT,.slice AE lE.len cE,.int .i64 zh.at_]) w9):=Lib.hid (hO8.out.push (h:=zh) hH9.out hT9.out hE9.out hbn.out hg9 hv9 (by rw[hdl.out];exact ho9))
        have hB9:=(Writes.bG hg9 (M:= [u6.ownBlock]) (by simp)).below FW.out (fun q hq=>bD hOm.out (List.mem_singleton.1 hq).symm);have hBl:=hRn.out.bl.trans (hB9.mono hw01.out);have hR9:Hid (RfB F gp w w9):=Lib.hid ⟨hRn.out.hg.below hB9 hgw.out,hF'.out.below hBl,hBl⟩;have hs9:Hid (w1.heap.size≤w9.heap.size):=Lib.hid (Nat.le_trans FW.out hg9.size)
        clear ho9 hg9 hv9 hB9 hBl))
     exact⟨⟨k+1,r,_,us',_,by omega,by simp,hrest',hO9,hRe2,hrl,Lib.hid hdt.out.2.2.1,hR9,Lib.hid (by rw[Sl.nR,hdl.out]),hs9⟩,by simp[intOf];omega⟩
theorem qY (F:FnV):∀(m:Nat) (l:Sl),l.dep<m→RSt F l
 |0,_,h=>absurd h (Nat.not_lt_zero _)
 |m+1,l,h=>wU F l fun l' h'=>qY F m l' (by omega)
theorem yL (F:FnV) (l:Sl):RSt F l:=qY F (l.dep+1) l (Nat.lt_succ_self _)
def E_ (f:Fnc):Sl×Option Nat→Fnc×Int×Nat
 | (_,some a)=>(Fnc.none,a,61)
 | (b,none)=>(⟨f.nm,f.ps,f.ls,b⟩,0,0)
def AU (f:Fnc):Fnc×Int×Nat:=if kC (fQ (f.ps++f.ls))then(Fnc.none,-1,60)else E_ f (aO (dX (f.ps++f.ls)) f.body)
def lG (f:Fnc) (unit:S):Fnc×Int×Nat:=if f.nm≠unit∨f.nm=h_ then(Fnc.none,-1,62)else AU f
theorem ru (w:World) (f:Fnc) (unit:S) (h:f.nm≠unit∨f.nm=h_) (A1 A2 A3:Option Addr) (n1 n2 n3 c1 c2 c3:Nat):
  Calls Tryz.prog 11 #[.agg (fnC f.nm A1 A2 A3 n1 c1 n2 c2 n3 c3),.string (ay unit)] w (dO (Fnc.none,-1,62) w):=by
 have hb:=((Below.refl w.heap.size w).alloc (Nat.le_refl _) (.cells (fnC f.nm A1 A2 A3 n1 c1 n2 c2 n3 c3) 26)).alloc (by simp) (.cells #[.string ⟨#[]⟩,.slice none 0 0,.slice none 0 0,.slice none 0 0] 26);have hn:=(Holds.new (w.alloc (.cells (fnC f.nm A1 A2 A3 n1 c1 n2 c2 n3 c3) 26)) 26 #[.string ⟨#[]⟩,.slice none 0 0,.slice none 0 0,.slice none 0 0])
 rw[show(w.alloc (.cells (fnC f.nm A1 A2 A3 n1 c1 n2 c2 n3 c3) 26)).heap.size=w.heap.size+1 by simp]at hn;have hb':=Lib.hid (dO.no w _ (-1) 62 hb);have hn':=Lib.hid hn;clear hb hn;unfold fnC at hb' hn'⊢;by_cases h1:f.nm=unit
 ·have h2:f.nm=h_:=by rcases h with h|h;exact absurd h1 h;exact h
  subst h1
  have h3:((ay f.nm).toList== [103,108,111,98,97,108,115])=true:=by rw[h2];simp[h_,aH]
  clear h2 h;go_enter Tryz.func11,Tryz.ntmps11;go_wp2_with fail;exact dM rfl rfl rfl hn'.out Tryz.underlying26 Tryz.sFunc hb'.out
 ·have h3:=qL h1;clear h1 h;go_enter Tryz.func11,Tryz.ntmps11;go_wp2_with fail;exact dM rfl rfl rfl hn'.out Tryz.underlying26 Tryz.sFunc hb'.out
theorem BD {l:List S} {i j:Nat} (hij:i<j) (hj:j<l.length) (h:l[i]'(by omega)=l[j]):kC l=true:=by
 cases hd:kC l with
 |true=>rfl
 |false=>
  have hn:=(iR l).1 hd;exact absurd h (List.pairwise_iff_getElem.1 hn i j (by omega) hj hij)
theorem yS {l:List S} {k:Nat} (hk:k<l.length) (h:(l.take k).Nodup) (h2:∀j (hj:j<k),l[j]'(by omega)≠l[k]):(l.take (k+1)).Nodup:=by
 rw[List.take_succ_eq_append_getElem hk,List.nodup_append];refine⟨h,by simp,?_⟩;intro a ha b hb;simp at hb;subst hb;obtain⟨j,hj,e⟩:=List.getElem_of_mem ha;rw[List.length_take]at hj;rw[List.getElem_take]at e;rw[←e];exact h2 j (by omega)
theorem vO (w:World) (f:Fnc) (hg:f.nm≠h_) (A1 A2 A3:Option Addr) (c1 c2 c3:Nat) (hF:eP w Evr f (.slice A1 f.ps.length c1) (.slice A2 f.ls.length c2) (.slice A3 f.body.len c3)):
  Calls Tryz.prog 11 #[.agg (fnC f.nm A1 A2 A3 f.ps.length c1 f.ls.length c2 f.body.len c3),.string (ay f.nm)] w (dO (AU f) w):=by
 obtain⟨iA,hiA,hzA0,hzA1,hzA2⟩:=info_parts Tryz.clVar;obtain⟨nm,ps,ls,body⟩:=f;simp only at hg hF⊢;obtain⟨hnm,h1,h2,hB⟩:=hF;simp only at hnm h1 h2 hB;obtain⟨R,hR⟩:∃R,R=AU ⟨nm,ps,ls,body⟩:=⟨_,rfl⟩;rw[←hR];have hR':=Lib.hid hR
 have hgl:((ay nm).toList== [103,108,111,98,97,108,115])=false:=by rw[aH];simpa[h_]using hg
 clear hR hg
 have hlen1:ps.length≤100000:=by obtain⟨_,_,_,a1,_⟩:=h1;exact a1
 have hlen2:ls.length≤100000:=by obtain⟨_,_,_,a1,_⟩:=h2;exact a1
 have hr1:Hid (bI w Evr A1 (ps.flatMap Vr.cells)):=Lib.hid (by obtain⟨_,_,e,_,_,a1,_⟩:=h1;injection e with e;subst e;exact a1);have hr2:Hid (bI w Evr A2 (ls.flatMap Vr.cells)):=Lib.hid (by obtain⟨_,_,e,_,_,a1,_⟩:=h2;injection e with e;subst e;exact a1);obtain⟨F,hF0⟩:∃F:FnV,F=⟨nm,ps,ls,A1,A2,A3,c1,c2,body.len,c3⟩:=⟨_,rfl⟩
 have GR:F.ok w:=by rw[hF0];exact⟨h1,h2⟩
 have hFK:Hid (F.K=dX (ps++ls)):=Lib.hid (by rw[hF0];rfl);have hcs:=yL F body;unfold RSt at hcs
 have hFc:F.cells= #[.string (ay nm),.slice A1 ps.length c1,.slice A2 ls.length c2,.slice A3 body.len c3]:=by rw[hF0];rfl
 rw[hFc]at hcs;have hl1:Hid ((ps.flatMap Vr.cells).length=ps.length*2):=Lib.hid (jO ps);have hl2:Hid ((ls.flatMap Vr.cells).length=ls.length*2):=Lib.hid (jO ls);unfold fnC;obtain⟨n1,hn1⟩:∃y,y=ps.length:=⟨_,rfl⟩;obtain⟨n2,hn2⟩:∃y,y=ls.length:=⟨_,rfl⟩;obtain⟨n3,hn3⟩:∃y,y=body.len:=⟨_,rfl⟩;rw[←hn1,←hn2,←hn3]at hcs⊢;rw[←hn1]at h1 hlen1 hl1
 rw[←hn2]at h2 hlen2 hl2;rw[←hn3]at hB;obtain⟨w2,hw2⟩:∃x,x=(w.alloc (.cells #[.string (ay nm),.slice A1 n1 c1,.slice A2 n2 c2,.slice A3 n3 c3] 26)).alloc (.cells #[.string ⟨#[]⟩,.slice none 0 0,.slice none 0 0,.slice none 0 0] 26):=⟨_,rfl⟩;obtain⟨gp,hgp⟩:∃x,x=w.heap.size:=⟨_,rfl⟩;obtain⟨gr,hgr⟩:∃x,x=w.heap.size+1:=⟨_,rfl⟩
 have hV:RvW gp gr #[.string (ay nm),.slice A1 n1 c1,.slice A2 n2 c2,.slice A3 n3 c3] w w2:=by
  refine⟨?_,?_,?_,by omega,by omega,by omega⟩
  ·rw[hw2,hgp];exact(Holds.new w _ _).alloc _
  ·rw[hw2,hgr];have:=Holds.new (w.alloc (.cells #[.string (ay nm),.slice A1 n1 c1,.slice A2 n2 c2,.slice A3 n3 c3] 26)) 26 kY
   have e:(w.alloc (.cells #[.string (ay nm),.slice A1 n1 c1,.slice A2 n2 c2,.slice A3 n3 c3] 26)).heap.size=w.heap.size+1:=by simp
   rw[e]at this;exact this
  ·rw[hw2];exact((Below.refl _ _).alloc (Nat.le_refl _) _).alloc (by simp) _
 obtain⟨wW,hwW⟩:∃y,y=w2.drew:=⟨_,rfl⟩
 have hbd:Below w2.heap.size w2 wW:=by rw[hwW];exact(Below.refl _ w2).drew
 have hVW:=Lib.hid (hV.below hbd);have hbW:=Lib.hid hVW.out.bl
 have hfc:Hid (∀w',Below wW.heap.size wW w'→w'.cell? ⟨gp,1,none⟩=some (.slice A1 n1 c1)∧w'.cell? ⟨gp,2,none⟩=some (.slice A2 n2 c2)∧gp<w'.heap.size):=Lib.hid fun w' hb=>by have h:=(hVW.out.below hb).hp;exact⟨h.cell 1,h.cell 2,h.lt⟩
 have hgo:Hid (Below wW.heap.size wW w2.drew):=Lib.hid (by rw[←hwW];exact Below.refl _ _);have hln:Hid ((fQ (ps++ls)).length=n1+n2):=Lib.hid (by unfold fQ;rw[List.length_map,List.length_append,hn1,hn2]);have h1':=Lib.hid h1;have h2':=Lib.hid h2;have hB':=Lib.hid hB;have hn1':=Lib.hid hn1;have hn2':=Lib.hid hn2;have hn3':=Lib.hid hn3;have hfo:=Lib.hid hw2.symm
 have jR:=Lib.hid hgp.symm;have zk:=Lib.hid hgr.symm;have hnm':=Lib.hid hnm;have GN:=Lib.hid GR;have hcs':=Lib.hid hcs;clear hw2 hgp hgr h1 h2 hB hn1 hn2 hn3 hnm hV hwW hbd GR hcs hF0 hFc;go_enter Tryz.func11,Tryz.ntmps11;go_wp2_with fail;rw[hfo.out,jR.out];rw[show gp+1=gr from by rw[←jR.out];exact zk.out];clear hfo
 refine aC ((eqv (.pointer (some ⟨gp,1,none⟩)))::(eqv (.slice A1 n1 c1))::(fun L w v=>L 5=false→w.ownsRow wW.heap.size 79 2 v n1 (ps.flatMap Vr.cells))::(eqv (.pointer (some ⟨gp,2,none⟩)))::(eqv (.slice A2 n2 c2))::(fun L w v=>L 2=true∧L 5=true∧w.ownsRow wW.heap.size 79 2 v (n1+n2) ((ps++ls).flatMap Vr.cells))::(fun L w v=>L 2=true∧L 5=true∧w.ownsRow wW.heap.size 79 2 v (n1+n2) ((ps++ls).flatMap Vr.cells))::[])
  ((rn1 2)::(rd1 22 0)::(rd1 23 1)::(rn1 2)::(rd1 25 3)::⟨[(24,some 2),(26,some 4)],0,[]⟩::(rd1 27 5)::[])
  (no::no::no::no::no::no::no::so 6::no::no::no::no::no::no::no::no::no::no::no::no::no::no::so 0::so 1::so 2::so 3::so 4::so 5::[])
  (fun _ w'=>Below wW.heap.size wW w') (fun i w w'=>i≠2→i≠5→w'=w) ?mixK3 ?okK3 ?tabK3 ?frK3 ?inK3 ?keptK3 ?startK3 ?eachK3 ?finK3
 case mixK3|okK3|tabK3|frK3=>kernel_rfl
 case inK3=>rfl
 case keptK3=>exact⟨fun _ _ _ _ _ _ _ _ _ _ _ h=>h,fun _ _ _ _ _ _ _ _ _ _ _ h=>h,fun i hne hr L w w' v hLi hC hC' hG h h1=>by
    have h5:i≠5:=fun e=>by subst e;simp at h1
    have n5:(5==i)=false:=by simpa using fun e=>h5 e.symm
    have a1:L 5=false:=by simpa[n5]using h1
    rw[hG (fun e=>hne e) h5]
    exact h a1,fun _ _ _ _ _ _ _ _ _ _ _ h=>h,fun _ _ _ _ _ _ _ _ _ _ _ h=>h,fun i hne hr L w w' v hLi hC hC' hG h=>by
    have h2:i≠2:=fun e=>by subst e;rw[h.1]at hLi;cases hLi
    have h5:i≠5:=fun e=>by subst e;rw[h.2.1]at hLi;cases hLi
    rw[hG h2 h5]
    exact⟨by simp[h.1],by simp[h.2.1],h.2.2⟩,fun i hne hr L w w' v hLi hC hC' hG h=>by
    have h2:i≠2:=fun e=>by subst e;rw[h.1]at hLi;cases hLi
    have h5:i≠5:=fun e=>by subst e;rw[h.2.1]at hLi;cases hLi
    rw[hG h2 h5]
    exact⟨by simp[h.1],by simp[h.2.1],h.2.2⟩,trivial⟩
 case startK3=>exact hgo.out
 case eachK3=>
  refine⟨?_,?_,?_,?_,?_,?_,?_,trivial⟩
  iterate 2 (intro w L f hC hLi hLd hLn ⟨a,_⟩;change _=_ at a;refine au.live rfl ?_;have qq:=hfc.out w hC;obtain⟨q1,q2,ql⟩:=qq;obtain⟨ev,ec,ef⟩:=evs f;refine aj ?_ hC (fun _ _=>rfl) rfl;go_simp)
  ·intro w L f hC hLi hLd hLn ⟨d23,_⟩;change _=_ at d23;refine au.live rfl ?_;obtain⟨ev,ec,ef⟩:=evs f;refine dY w (.const (.slice none 0 0)) (.tmp 23) 23 rfl wW.heap.size 79 iA _ 2 24 Tryz.underlying23 hiA hzA0 hzA1 hzA2 rfl (by omega) (.slice none 0 0) 0 [] (by rw[ec]) (World.ownsRow_nil _ _ _ _) A1 n1 c1 (ps.flatMap Vr.cells) (by rw[ev,d23]) hl1.out (hr1.out.up (hbW.out.trans (hC.mono hbW.out.size))) (lu ps) (by unfold maxLen;omega) (by omega) hC.size ?_;intro v' w' ho hg;have hb:Below w.heap.size w w':=⟨hg.os,hg.tape,hg.output,hg.size,fun k hk=>hg.block k hk (by simp[Value.ownBlock])⟩;exact⟨hC.trans (hb.mono hC.size),fun h=>absurd rfl h,fun _=>by simpa using ho⟩
  iterate 2 (intro w L f hC hLi hLd hLn ⟨a,_⟩;change _=_ at a;refine au.live rfl ?_;have qq:=hfc.out w hC;obtain⟨q1,q2,ql⟩:=qq;obtain⟨ev,ec,ef⟩:=evs f;refine aj ?_ hC (fun _ _=>rfl) rfl;go_simp)
  ·intro w L f hC hLi hLd hLn ⟨d24,d26,_⟩;change _=_ at d26;refine au.live rfl ?_;have l2:L 2=true:=hLd 2 (by decide);have ho1:=d24 hLi;obtain⟨ev,ec,ef⟩:=evs f;refine dY w (.tmp 24) (.tmp 26) 23 rfl wW.heap.size 79 iA _ 2 24 Tryz.underlying23 hiA hzA0 hzA1 hzA2 rfl (by omega) (f 24) n1 (ps.flatMap Vr.cells) (by rw[ev]) ho1 A2 n2 c2 (ls.flatMap Vr.cells) (by rw[ev,d26]) hl2.out (hr2.out.up (hbW.out.trans (hC.mono hbW.out.size))) (lu ls) (by unfold maxLen;omega) (by omega) hC.size ?_;intro v' w' ho hg;exact⟨hC.grown hg hC.size (fun g hg=>(ho1.lt g hg).1),fun _ h=>absurd rfl h,by simp[l2],by simp,by rw[List.flatMap_append];exact ho⟩
  ·intro w L f hC hLi hLd hLn ⟨d,_⟩;refine au.live rfl ?_;exact aj (v:=f 27) rfl (hC) (fun _ _=>rfl) d
 intro x w' hC hV
 obtain⟨-,-,ho⟩:=hV 6 _ rfl rfl;clear hV;obtain⟨vv,hvv⟩:∃v,v=x 6:=⟨_,rfl⟩;rw[←hvv]at ho;simp only[framed];rw[←hvv];clear hvv;rename World=>w3;have hV3:=Lib.hid (hVW.out.below hC);clear hC;obtain⟨N,hN⟩:∃y,y=n1+n2:=⟨_,rfl⟩;rw[←hN]at ho hln;obtain⟨vA,vc,rfl,hrow,hvc⟩:=bI.own (S:=Evr) ho (fun _ _=>trivial)
 have hN6:N≤200000:=by omega
 have hrow3:=Lib.hid hrow;clear ho hrow hN;obtain⟨nl,hnl⟩:∃y,y=fQ (ps++ls):=⟨_,rfl⟩;rw[←hnl]at hln
 have hrows:Hid (∀(wx:World),Below w3.heap.size w3 wx→∀i (hi:i<nl.length),∃b off,vA=some ⟨b,off,none⟩∧wx.cell? ⟨b,off+i*2,none⟩=some (.string (ay nl[i]))∧b<wx.heap.size):=Lib.hid fun wx hx i hi=>by
  subst hnl
  have hi2:i<(ps++ls).length:=by unfold fQ at hi;rw[List.length_map]at hi;exact hi
  obtain⟨b,off,e,q0,-⟩:=nN (hrow3.out.up hx) hi2;refine⟨b,off,e,?_,lt_of_cell q0⟩;rw[q0];simp only[fQ,List.getElem_map]
 have Gs:=Lib.hid hnl;clear hnl hrow3;go_wp2_with fail;go_loopw [8] (fun i wl=>∃k:Nat,k≤N∧i= .int .i64 k∧Hid ((nl.take k).Nodup)∧Hid (Below w3.heap.size w3 wl)) (fun i _=>N-(intOf i).toNat)
 case atStart=>exact⟨0,by omega,rfl,Lib.hid (by simp),Lib.hid (Below.refl _ _)⟩
 obtain⟨k,hk,rfl,hnd,hBl⟩:=hrel;rename World=>wl;by_cases hlt:k<N
 ·have hkl:k<nl.length:=by rw[hln.out];exact hlt
  go_wp2_with fail;go_loopw [9] (fun i wm=>∃j:Nat,j≤k∧i= .int .i64 j∧Hid (∀q (hq:q<j) (hq2:q<nl.length),nl[q]≠nl[k])∧Hid (Below w3.heap.size w3 wm)) (fun i _=>k-(intOf i).toNat)
  case atStart=>exact⟨0,by omega,rfl,Lib.hid (fun q hq=>absurd hq (Nat.not_lt_zero _)),hBl⟩
  obtain⟨j,hj,rfl,hne,hBm⟩:=hrel;rename World=>wm;by_cases hm:j<k
  ·have hjl:j<nl.length:=by omega
   obtain⟨b,off,rfl,q1,ql⟩:=hrows.out wm hBm.out j hjl;obtain⟨b2,off2,e2,q2,-⟩:=hrows.out wm hBm.out k hkl;injection e2 with e2;injection e2 with e2 e3;subst e2 e3;by_cases hxy:nl[j]=nl[k]
   ·have hxe:((ay nl[j]).toList==(ay nl[k]).toList)=true:=by rw[hxy];simp
    have hRR:Hid (R=(Fnc.none,-1,60)):=Lib.hid (by
     rw[hR'.out];unfold AU;rw[if_pos];rw[←Gs.out]
     exact BD hm hkl hxy)
    obtain⟨x1,hx1⟩:∃y,y=nl[j]:=⟨_,rfl⟩;obtain⟨x2,hx2⟩:∃y,y=nl[k]:=⟨_,rfl⟩;rw[←hx1]at q1;rw[←hx2]at q2;rw[←hx1,←hx2]at hxe;clear hxy hne hx1 hx2;go_wp2_with fail;go_quiet (fail);obtain⟨w5,hw5⟩:∃y,y=wm.drewN nq:=⟨_,rfl⟩
    have hB5:Below w3.heap.size w3 w5:=by rw[hw5];exact below_drewN hBm.out _
    rw[←hw5];have hV5:=Lib.hid (hV3.out.below hB5);obtain⟨r0,r1,r2,r3,rl,rf⟩:=hV5.out.pU;replace rf:=Lib.hid rf;have f0:=rf.out 0;have f1:=rf.out 1;have f2:=rf.out 2;have f3:=rf.out 3;clear hw5 hB5 q1 q2 ql;go_wp2_with fail;refine dM rfl rfl rfl (hV5.out.hr.vP _ _ _ _) Tryz.underlying26 Tryz.sFunc ?_;rw[hRR.out]
    exact dO.no w _ (-1) 60 (hV5.out.bl.trans ((dU w5 gr _ _ _ _).below hV5.out.bl.size fun j hj=>by have:=hV5.out.r0;simp at hj;omega))
   ·have hxe:=qL hxy
    have hne2:Hid (∀q (hq:q<j+1) (hq2:q<nl.length),nl[q]≠nl[k]):=Lib.hid (fun q hq hq2=>by
     rcases Nat.lt_succ_iff_lt_or_eq.1 hq with h|h
     ·exact hne.out q h hq2
     ·subst h
      exact hxy)
    obtain⟨x1,hx1⟩:∃y,y=nl[j]:=⟨_,rfl⟩;obtain⟨x2,hx2⟩:∃y,y=nl[k]:=⟨_,rfl⟩;rw[←hx1]at q1;rw[←hx2]at q2;rw[←hx1,←hx2]at hxe;clear hxy hne hx1 hx2;go_wp2_with fail;go_quiet (fail);obtain⟨w5,hw5⟩:∃y,y=wm.drewN nq:=⟨_,rfl⟩;have hB5:=Lib.hid (show Below w3.heap.size w3 w5 by rw[hw5];exact below_drewN hBm.out _);rw[←hw5];clear hw5 q1 q2 ql;go_wp2_with fail
    exact⟨⟨j+1,by omega,by simp,hne2,hB5⟩,by simp[intOf];omega⟩
  ·obtain rfl:j=k:=by omega
   have hnd2:Hid ((nl.take (j+1)).Nodup):=Lib.hid (yS hkl hnd.out (fun q hq=>hne.out q hq (by omega)));clear hne hnd;go_wp2_with fail;exact⟨⟨j+1,by omega,by simp,hnd2,hBm⟩,by simp[intOf];omega⟩
 ·obtain rfl:k=N:=by omega
  have hRR:Hid (R=E_ ⟨nm,ps,ls,body⟩ (aO F.K body)):=Lib.hid (by
   rw[hR'.out,hFK.out];unfold AU;rw[if_neg];simp only;rw[←Gs.out];have:=hnd.out;rw[←hln.out,List.take_length]at this;rw[(iR nl).2 this]
   simp)
  have hV4:=hV3.out.below hBl.out;have hcw:=hcs'.out wl (.slice A3 n3 c3) (fun x=>x<w.heap.size) (GN.out.below hV4.bl) ((hB'.out.mono (S':=fun x=>x<w.heap.size) fun x hx _=>hx).keep fun x hx _=>hV4.bl.block x hx);obtain⟨⟨lb,ab⟩,hst⟩:∃y,y=aO F.K body:=⟨_,rfl⟩;rw[←hst]at hcw;have hRS:Hid (R=E_ ⟨nm,ps,ls,body⟩ (lb,ab)):=Lib.hid (by rw[hRR.out,hst])
  obtain⟨q0,q1,q2,q3,ql,qf⟩:=hV4.facts;replace hV4:=Lib.hid hV4;clear qf hRR hst hcs' hnd
  cases ab with
  |some a=>
   have hR9:Hid (R=(Fnc.none,(a:Int),61)):=hRS
   have hge:(0:Int)≤a:=by omega
   simp only[atI]at hcw;replace hcw:=Lib.hid hcw;clear hRS;go_wp2_with fail;refine hcw.out.mono ?_;rintro e w9 ⟨v',rfl,-,hb9⟩;have hV9:=Lib.hid (hV4.out.below hb9);obtain⟨r0,r1,r2,r3,rl,rf⟩:=hV9.out.pU;replace rf:=Lib.hid rf;have f0:=rf.out 0;have f1:=rf.out 1;have f2:=rf.out 2;have f3:=rf.out 3;clear hb9 q0 q1 q2 q3 ql;go_wp2_with fail
   refine dM rfl rfl rfl (hV9.out.hr.vP _ _ _ _) Tryz.underlying26 Tryz.sFunc ?_;rw[hR9.out];exact dO.no w _ a 61 (hV9.out.bl.trans ((dU w9 gr _ _ _ _).below hV9.out.bl.size fun j hj=>by have:=hV9.out.r0;simp at hj;omega))
  |none=>
   have hR9:Hid (R=(⟨nm,ps,ls,lb⟩,0,0)):=hRS;simp only[atI]at hcw;replace hcw:=Lib.hid hcw;clear hRS;go_wp2_with fail;refine hcw.out.mono ?_;clear hcw;rintro e we ⟨v',rfl,hSe,hbe⟩;have hVe:=hV4.out.below hbe;have hgpd:=hV4.out.hp.lt;have hgrd:=hV4.out.hr.lt;have hp0:=hV4.out.p0;have hr0:=hV4.out.r0;obtain⟨A6,c6,hv6⟩:=hSe.jr;obtain⟨n6,hn6⟩:∃y,y=lb.len:=⟨_,rfl⟩
   rw[←hn6]at hv6;rw[hv6]at hSe;rw[hv6];clear hv6;have hn6':=Lib.hid hn6;obtain⟨wf,hwf⟩:∃x,x=we.setCell ⟨gp,3,none⟩ (.slice A6 n6 c6):=⟨_,rfl⟩
   have hWf:Writes [some gp] we wf:=by rw[hwf];exact Writes.store we (by simp) _
   have hSf:aQ wf (fun x=>x≠gr) lb (.slice A6 n6 c6):=by
    have h1:=hSe.keep fun x hx hS=>hWf.block x hx (by simp;rcases hS with hS|hS<;>omega)
    exact h1.mono fun x _ hS=>by rcases hS with hS|hS<;>omega
   clear q0 q1 q2 q3 ql;obtain⟨q0,q1,q2,q3,ql,qf⟩:=hVe.facts;replace qf:=Lib.hid qf;have qf3:=qf.out 3
   have hVf:RvW gp gr #[.string (ay nm),.slice A1 n1 c1,.slice A2 n2 c2,.slice A6 n6 c6] w wf:=by have:=hVe.put 3 (.slice A6 n6 c6);rw[←hwf]at this;exact this
   have hZ:=dU wf gr (.string (ay nm)) (.slice A1 n1 c1) (.slice A2 n2 c2) (.slice A6 n6 c6);have hHz:=Lib.hid (hVf.hr.vP (.string (ay nm)) (.slice A1 n1 c1) (.slice A2 n2 c2) (.slice A6 n6 c6));have hBz:=hVf.bl.trans (hZ.below hVf.bl.size fun j hj=>by simp at hj;omega)
   have hend:Hid (dO R w (.returned (.tuple #[.agg #[.string (ay nm),.slice A1 n1 c1,.slice A2 n2 c2,.slice A6 n6 c6],.int .i64 0,.int .i64 0])) ((((wf.setCell ⟨gr,0,none⟩ (.string (ay nm))).setCell ⟨gr,1,none⟩ (.slice A1 n1 c1)).setCell ⟨gr,2,none⟩ (.slice A2 n2 c2)).setCell ⟨gr,3,none⟩ (.slice A6 n6 c6))):=Lib.hid (by
    rw[hR9.out];refine⟨_,_,_,rfl,⟨hnm'.out,h1'.out.keep fun x hx _=>hBz.block x hx,h2'.out.keep fun x hx _=>hBz.block x hx,?_⟩,hBz⟩
    exact(hSf.keep fun x hx hS=>hZ.block x hx (by simp;exact hS)).mono fun _ _ _=>trivial)
   have hff:=Lib.hid hwf.symm;obtain⟨p0,p1,p2,p3,pl,pf⟩:=hVf.facts;obtain⟨r0,r1,r2,r3,rl,rf⟩:=hVf.pU;replace rf:=Lib.hid rf;have f0:=rf.out 0;have f1:=rf.out 1;have f2:=rf.out 2;have f3:=rf.out 3;clear pf hwf hWf hSf hVf hZ hBz hSe hbe hVe hn6;go_upto_region 16 with(fail);rw[hff.out];clear q0 q1 q2 q3 ql qf qf3;go_wp2_with fail
   exact dM rfl rfl rfl hHz.out Tryz.underlying26 Tryz.sFunc hend.out
theorem sV (w:World) (f:Fnc) (unit:S) (A1 A2 A3:Option Addr) (c1 c2 c3:Nat) (hF:eP w Evr f (.slice A1 f.ps.length c1) (.slice A2 f.ls.length c2) (.slice A3 f.body.len c3)):
  Calls Tryz.prog 11 #[.agg (fnC f.nm A1 A2 A3 f.ps.length c1 f.ls.length c2 f.body.len c3),.string (ay unit)] w (dO (lG f unit) w):=by
 by_cases h:f.nm≠unit∨f.nm=h_
 ·have:=ru w f unit h A1 A2 A3 f.ps.length f.ls.length f.body.len c1 c2 c3;unfold lG;rw[if_pos h];exact this
 ·have h1:f.nm=unit:=Classical.byContradiction fun e=>h (.inl e);subst h1;unfold lG;rw[if_neg h];exact vO w f (fun e=>h (.inr e)) A1 A2 A3 c1 c2 c3 hF
end Go.Proofs.YtpndglghpojjkaaGreat
namespace Go.Proofs.YtpndglghpojjkaaGreat
def knT:List UInt8:= [102,110,32,102,40,42,112,41,32,123,32,112,116,114,32,113,59,32,113,32,61,32,112,59,32,99,32,61,32,103,40,49,41,59,32,125]
def knF:Fnc:=(funcF knT).1
theorem EW:funcF knT=(knF,0,0):=by kernel_rfl
def knR:Fnc:=(bK knF [102]).1
theorem FP:bK knF [102]=(knR,0,0):=by kernel_rfl
theorem FQ:bK knF [103]=(Fnc.none,-1,62):=by kernel_rfl
theorem FT:knR.body.len=2:=by kernel_rfl
def pI:Sl→Hd
 | .nil=>hd0 0
 | .cons h _ _ _=>h
theorem EU:(pI knR.body).k=2∧(pI knR.body).y= [112]:=⟨by kernel_rfl,by kernel_rfl⟩
theorem EX:jI (fun h=>hsC h+1) knR.body≤500000:=of_decide_eq_true (by kernel_rfl)
theorem DF:jI (fun _=>1) knR.body≤500000:=of_decide_eq_true (by kernel_rfl)
theorem uU (x:S):canon [x]= [x]:=su (List.pairwise_singleton _ _) fun _=>Iff.rfl
theorem DI:canon (each (hdP (cZ (knR.ps++knR.ls))) knR.body)= [[99]]:=by
 rw[show each (hdP (cZ (knR.ps++knR.ls))) knR.body= [[99]]by kernel_rfl];exact uU _
theorem DJ:canon (each (globs (cZ (knR.ps++knR.ls)) iw) knR.body)= [[103]]:=by
 rw[show each (globs (cZ (knR.ps++knR.ls)) iw) knR.body= [[103]]by kernel_rfl];exact uU _
theorem DC:kC [[97],[97]]=true:=by kernel_rfl
end Go.Proofs.YtpndglghpojjkaaGreat
namespace Go.Proofs.YtpndglghpojjkaaGreat
open Go.RowKit Go.Deep
theorem CU (w:World) (A1 A2:Option Addr) (n1 n2 c1 c2:Nat) (l l':List S) (h1:l.length=n1) (h2:l'.length=n2) (hm:n1≤100000) (hm2:n2≤100000) (r1:Row w w.heap.size A1 (l.map encStr)) (r2:Row w w.heap.size A2 (l'.map encStr)):
  Calls Tryz.prog 16 #[.slice A1 n1 c1,.slice A2 n2 c2] w fun e w'=>e= .returned (.bool (decide (l=l')))∧Below w.heap.size w w':=by
 have h1':=Lib.hid h1;have h2':=Lib.hid h2;have r1':=Lib.hid r1;have r2':=Lib.hid r2;clear r1 r2 h1 h2;by_cases hne:n1=n2
 case neg=>
  have hd:=Lib.hid (show decide (l=l')=false by
   simp only[decide_eq_false_iff_not];rintro rfl
   exact hne (by rw[←h1'.out,←h2'.out]))
  have hnn:((n1:Int)==n2)=false:=by simp;omega
  go_enter Tryz.func16,Tryz.ntmps16;go_wp2_with fail;go_ret;exact⟨by rw[hd.out];rfl,Below.refl _ _⟩
 subst hne;go_enter Tryz.func16,Tryz.ntmps16;go_wp2_with fail;go_loopw [5] (fun i wr=>∃k:Nat,k≤n1∧i= .int .i64 k∧Below w.heap.size w wr∧l.take k=l'.take k) (fun i _=>n1-(intOf i).toNat)
 case atStart=>exact⟨0,Nat.zero_le _,rfl,Below.refl _ _,rfl⟩
 obtain⟨k,hk,rfl,hb,htk⟩:=hrel;have htk:=Lib.hid htk;rename_i u1;clear u1;by_cases hlt:k<n1
 ·have hl1:k<l.length:=by rw[h1'.out];exact hlt
  have hl2:k<l'.length:=by rw[h2'.out];exact hlt
  obtain⟨b1,o1,rfl,_,q1⟩:=(r1'.out.below hb).at_ (k:=k) (by simpa using hl1);obtain⟨b2,o2,rfl,_,q2⟩:=(r2'.out.below hb).at_ (k:=k) (by simpa using hl2);rw[List.getElem_map]at q1 q2;have hx:=Lib.hid (List.take_succ_eq_append_getElem hl1);have hy:=Lib.hid (List.take_succ_eq_append_getElem hl2);have hinj:Hid (l=l'→l[k]=l'[k]):=Lib.hid (by rintro rfl;rfl)
  have hb':=Lib.hid hb;clear hb;generalize l[k]=x at q1 hx hinj;generalize l'[k]=y at q2 hy hinj;by_cases hxy:x=y
  ·subst hxy;go_wp2_with fail
   go_region
   all_goals
    go_wp2_with fail;go_roundw
    case rel=>exact⟨k+1,by omega,by go_num,hb'.out.drew,by rw[hx.out,hy.out,htk.out]⟩
    case measure=>simp[intOf];omega
  ·have hd:=Lib.hid (show decide (l=l')=false by
    simp only[decide_eq_false_iff_not]
    exact fun h=>hxy (hinj.out h))
   have hbq:(x==y)=false:=by simpa using hxy
   go_wp2_with fail
   go_region
   all_goals
    go_wp2_with fail;go_ret;exact⟨by rw[hd.out];rfl,hb'.out.drew⟩
 ·obtain rfl:k=n1:=by omega
  have hd:=Lib.hid (show decide (l=l')=true by
   have:=htk.out;rw[show l.take k=l by rw[←h1'.out,List.take_length],show l'.take k=l' by rw[←h2'.out,List.take_length]]at this
   simpa using this)
  go_wp2_with fail;go_ret;exact⟨by rw[hd.out];rfl,hb⟩
theorem xW (l:List S):(l.map ay).map Value.string=l.map encStr:=by rw[List.map_map];rfl
theorem check_any (w:World) (A:Option Addr) (n c:Nat) (l:List S) (hn:l.length=n) (hm:n≤100000) (hne:l≠[]) (hr:Row w w.heap.size A (l.map encStr)):
  Calls Tryz.prog 27 #[.agg #[.slice A n c,.slice none 0 0]] w fun e w'=>e= .returned (.int .i64 (if kC l then 60 else 0:Nat))∧Below w.heap.size w w':=by
 obtain⟨w1,hw1⟩:∃y,y=w.alloc (.cells #[.slice A n c,.slice none 0 0] 48):=⟨_,rfl⟩;obtain⟨g,hg⟩:∃y,y=w.heap.size:=⟨_,rfl⟩
 have hb1:Below w.heap.size w w1:=by rw[hw1];exact aA w _
 have hH1:Holds w1 g 48 #[.slice A n c,.slice none 0 0]:=by rw[hw1,hg];exact Holds.new w _ _
 obtain⟨b,off,rfl,_,hcell⟩:=hr (by simpa using hne)
 have hcl:=Lib.hid (Tryz.slices_Clone_string b off n c (l.map ay) w1 (by simp[hn]) (by omega) (fun j hj=>by
  have hj2:j<l.length:=by simpa using hj
  have h1:=hcell j (encStr l[j]) (by simp[hj2]);have h2:w1.cell? ⟨b,off+j,none⟩=w.cell? ⟨b,off+j,none⟩:=hb1.cell (p:=⟨b,off+j,none⟩) (by assumption);rw[h2,h1];simp[hj2]
  rfl))
 have q0:w1.cell? ⟨g,0,none⟩=some (.slice (some ⟨b,off,none⟩) n c):=hH1.cell 0;have q1:w1.cell? ⟨g,1,none⟩=some (.slice none 0 0):=hH1.cell 1;have ql:=hH1.lt;have hfo:=Lib.hid hw1.symm;have hg':=Lib.hid hg.symm;have hb1':=Lib.hid hb1;have hH1':=Lib.hid hH1;have hn':=Lib.hid hn
 obtain⟨R,hR⟩:∃R:Nat,R=if kC l then 60 else 0:=⟨_,rfl⟩
 rw[←hR];have hR':=Lib.hid hR;clear hw1 hg hb1 hH1 hcell hr hn hR hne;go_enter Tryz.func27,Tryz.ntmps27;go_upto_region 1 with(fail);rw[hfo.out,hg'.out];clear hfo hg';go_wp2_with fail;refine hcl.out.mono ?_;rintro e w2 ⟨v,rfl,ho,-,hb2⟩;have hH2:=hH1'.out.below hb2 hH1'.out.lt;clear hcl q0 q1 ql;have q1:w2.cell? ⟨g,1,none⟩=some (.slice none 0 0):=hH2.cell 1;have ql:=hH2.lt
 rw[List.take_of_length_le (by simp[hn'.out]),xW,←hn'.out]at ho;have htw:=Lib.hid (tV w1 w2 v l (by rw[hn'.out];omega) ho hb2);have hb12:=Lib.hid (hb1'.out.trans (hb2.mono hb1'.out.size));clear ho hH2 hb2 hH1';go_wp2_with fail;go_loopw [3,12] (fun x i wl=>x=v∧i= .int .i64 0∧Hid (wl=w2)) (fun _ _ _=>0)
 case atStart=>exact⟨rfl,rfl,Lib.hid rfl⟩
 obtain⟨hx,rfl,hw⟩:=hrel;subst hx;rename World=>wl;obtain rfl:wl=w2:=hw.out;clear hw;go_wp2_with fail;refine htw.out.mono ?_;rintro e w3 ⟨rfl,hb3⟩;have hB3:=Lib.hid (hb1'.out.trans (hb3.mono hb1'.out.size));clear htw hb3 q1 ql
 cases hd:kC l with
 |true=>
  have hRR:Hid (R=60):=Lib.hid (by rw[hR'.out,hd];rfl);clear hd hR';go_wp2_with fail;go_ret;exact⟨by rw[hRR.out];rfl,hB3.out⟩
 |false=>
  have hRR:Hid (R=0):=Lib.hid (by rw[hR'.out,hd];rfl);clear hd hR';go_wp2_with fail;go_ret;exact⟨by rw[hRR.out];rfl,hB3.out⟩
def vG (f:Fnc) (a b:Int) (w:World) (e:Ending) (w':World):Prop:=∃A1 A2 A3 c1 c2 c3,e= .returned (.tuple #[.agg (fnC f.nm A1 A2 A3 f.ps.length c1 f.ls.length c2 f.body.len c3),.int .i64 a,.int .i64 b])∧eP w' Evr f (.slice A1 f.ps.length c1) (.slice A2 f.ls.length c2) (.slice A3 f.body.len c3)∧Below w.heap.size w w'
theorem eP.slices {w:World} {S:Nat→Prop} {f:Fnc} {vp vl vb:Value} (h:eP w S f vp vl vb):∃A1 A2 A3 c1 c2 c3,vp= .slice A1 f.ps.length c1∧vl= .slice A2 f.ls.length c2∧vb= .slice A3 f.body.len c3:=by
 obtain⟨-,⟨A1,c1,e1,-⟩,⟨A2,c2,e2,-⟩,⟨A3,c3,us,e3,-⟩⟩:=h;exact⟨A1,A2,A3,c1,c2,c3,e1,e2,e3⟩
theorem zD.out {r:Fnc×Nat×Nat} {f:Fnc} {a b:Nat} {w w':World} {e:Ending} (h:zD r w e w') (hr:r=(f,a,b)):vG f a b w e w':=by
 subst hr;obtain⟨vp,vl,vb,rfl,hF,hb⟩:=h;obtain⟨A1,A2,A3,c1,c2,c3,rfl,rfl,rfl⟩:=hF.slices;exact⟨A1,A2,A3,c1,c2,c3,rfl,hF.mono fun _ _ _=>trivial,hb⟩
theorem dO.out {r:Fnc×Int×Nat} {f:Fnc} {a:Int} {b:Nat} {w w':World} {e:Ending} (h:dO r w e w') (hr:r=(f,a,b)):vG f a b w e w':=by
 subst hr;obtain⟨vp,vl,vb,rfl,hF,hb⟩:=h;obtain⟨A1,A2,A3,c1,c2,c3,rfl,rfl,rfl⟩:=hF.slices;exact⟨A1,A2,A3,c1,c2,c3,rfl,hF,hb⟩
structure wF (g:Nat) (f:Fnc) (A1 A2 A3:Option Addr) (c1 c2 c3:Nat) (w:World):Prop where
 h:Holds w g 26 (fnC f.nm A1 A2 A3 f.ps.length c1 f.ls.length c2 f.body.len c3)
 at_:eP w Evr f (.slice A1 f.ps.length c1) (.slice A2 f.ls.length c2) (.slice A3 f.body.len c3)
section
variable {g:Nat} {f:Fnc} {A1 A2 A3:Option Addr} {c1 c2 c3:Nat} {w w':World}
theorem wF.below (h:wF g f A1 A2 A3 c1 c2 c3 w) (hb:Below w.heap.size w w'):wF g f A1 A2 A3 c1 c2 c3 w':=⟨h.h.below hb h.h.lt,h.at_.below hb⟩
theorem wF.new (h:eP w Evr f (.slice A1 f.ps.length c1) (.slice A2 f.ls.length c2) (.slice A3 f.body.len c3)):wF w.heap.size f A1 A2 A3 c1 c2 c3 (w.alloc (.cells (fnC f.nm A1 A2 A3 f.ps.length c1 f.ls.length c2 f.body.len c3) 26)):=⟨Holds.new w _ _,h.below (aA w _)⟩
theorem wF.facts (h:wF g f A1 A2 A3 c1 c2 c3 w):w.cell? ⟨g,0,none⟩=some (.string (ay f.nm))∧w.cell? ⟨g,1,none⟩=some (.slice A1 f.ps.length c1)∧w.cell? ⟨g,2,none⟩=some (.slice A2 f.ls.length c2)∧w.cell? ⟨g,3,none⟩=some (.slice A3 f.body.len c3)∧g<w.heap.size:=
 ⟨h.h.cell 0,h.h.cell 1,h.h.cell 2,h.h.cell 3,h.h.lt⟩
end
theorem xR {w:World} {l:Sl} {A:Option Addr} {n c:Nat} (h:aQ w Evr l (.slice A n c)) (hl:l≠.nil):∃b off,A=some ⟨b,off,none⟩∧w.cell? ⟨b,off,none⟩=some (.int .i64 (pI l).k)∧w.cell? ⟨b,off+2,none⟩=some (.string (ay (pI l).y))∧b<w.heap.size:=by
 obtain⟨A',c',us,e,-,-,hR⟩:=h.rest;injection e with e1 e2 e3;subst e1
 cases l with
 |nil=>exact absurd rfl hl
 |cons h t e r=>
  obtain⟨b,off,pe,pf,pc,Aa,ca,At,ct,Al,cl,us',hA,-,-,-,hc,-⟩:=hR.next;have h0:=hc 0 (by decide);have h2:=hc 2 (by decide);simp only[Nat.zero_mul,Nat.add_zero]at h0 h2;exact⟨b,off,hA,h0,h2,lt_of_cell h0⟩
theorem wI (w0 w:World) (v:Value) (x:S) (ho:w.ownsRow w0.heap.size 9 1 v [x].length ([x].map encStr)):∃A c,v= .slice A 1 c∧
  Calls Tryz.prog 16 #[.slice A 1 c,.slice (some ⟨w.heap.size,0,none⟩) 1 1] (w.alloc (.cells #[.string ⟨x.toArray⟩] 9)) fun e w'=>e= .returned (.bool true)∧Below w.heap.size w w':=by
 obtain⟨A,c,e,hr,-⟩:=Dq ho;refine⟨A,c,e,?_⟩;have hb:=aA w (.cells #[.string ⟨x.toArray⟩] 9);refine(CU (w.alloc (.cells #[.string ⟨x.toArray⟩] 9)) A (some ⟨w.heap.size,0,none⟩) 1 1 c 1 [x] [x] rfl rfl (by omega) (by omega) ((hr.below hb).more hb.size) (Row.one w 9 (encStr x))).mono fun e' w' ⟨h1,h2⟩=>⟨?_,hb.trans (h2.mono hb.size)⟩;rw[h1];simp
theorem lD (w:World) (f r:Fnc) (unit:S) (a:Int) (b:Nat) (h:bK f unit=(r,a,b)) {A1 A2 A3:Option Addr} {c1 c2 c3:Nat} (hF:eP w Evr f (.slice A1 f.ps.length c1) (.slice A2 f.ls.length c2) (.slice A3 f.body.len c3)):
  Calls Tryz.prog 10 #[.agg (fnC f.nm A1 A2 A3 f.ps.length c1 f.ls.length c2 f.body.len c3),.string (ay unit)] w (vG r a b w):=(wV w f unit A1 A2 A3 c1 c2 c3 hF).mono fun _ _ h2=>h2.out h
theorem mP (w:World):Calls Tryz.prog 8 #[] w fun e w'=>e= .returned (.bool true)∧Below w.heap.size w w':=by
 have cF:Calls Tryz.prog 9 #[.string ⟨#[102,110,32,102,40,42,112,41,32,123,32,112,116,114,32,113,59,32,113,32,61,32,112,59,32,99,32,61,32,103,40,49,41,59,32,125]⟩] w (vG knF (0:Nat) (0:Nat) w):=
  (rV w ⟨#[102,110,32,102,40,42,112,41,32,123,32,112,116,114,32,113,59,32,113,32,61,32,112,59,32,99,32,61,32,103,40,49,41,59,32,125]⟩ (by decide)).mono fun e w' h=>h.out EW
 have cF':=Lib.hid cF;obtain⟨f,hf⟩:∃f,f=knF:=⟨_,rfl⟩;obtain⟨r,hr⟩:∃f,f=knR:=⟨_,rfl⟩;rw[←hf]at cF';have hf':=Lib.hid hf;have hr':=Lib.hid hr;clear cF hf hr;go_enter Tryz.func8,Tryz.ntmps8;go_wp2_with fail;refine cF'.out.mono ?_;clear cF';rintro e w1 ⟨A1,A2,A3,c1,c2,c3,rfl,hF,hb1⟩;have hX1:=wF.new hF
 have hb2:=aA w1 (.cells (fnC f.nm A1 A2 A3 f.ps.length c1 f.ls.length c2 f.body.len c3) 26);obtain⟨n1,hn1⟩:∃y,y=f.ps.length:=⟨_,rfl⟩;obtain⟨n2,hn2⟩:∃y,y=f.ls.length:=⟨_,rfl⟩;obtain⟨n3,hn3⟩:∃y,y=f.body.len:=⟨_,rfl⟩;obtain⟨w2,hw2⟩:∃x,x=w1.alloc (.cells (fnC f.nm A1 A2 A3 f.ps.length c1 f.ls.length c2 f.body.len c3) 26):=⟨_,rfl⟩
 obtain⟨g1,hg1⟩:∃x,x=w1.heap.size:=⟨_,rfl⟩;rw[←hw2,←hg1]at hX1;rw[←hw2]at hb2;have hB2:=Lib.hid (hb1.trans (hb2.mono hb1.size));have hX1':=Lib.hid hX1;obtain⟨q0,q1,q2,q3,ql⟩:=hX1.facts;have hc2:=Lib.hid (lD w2 f r [102] 0 0 (by rw[hf'.out,hr'.out];exact FP) hX1.at_);have hfo:=Lib.hid hw2.symm;have hg1':=Lib.hid hg1.symm
 rw[←hn1,←hn2,←hn3]at hc2 hfo⊢;rw[←hn1]at q1;rw[←hn2]at q2;rw[←hn3]at q3;unfold fnC ay at hc2;unfold fnC at hfo⊢;have hN:=Lib.hid (And.intro hn1 (And.intro hn2 hn3));clear hF hb1 hb2 hw2 hg1 hX1 hn1 hn2 hn3;go_upto_region 2 with(fail);rw[hfo.out,hg1'.out];clear hfo hg1';go_wp2_with fail;refine hc2.out.mono ?_;clear hc2 q0 q1 q2 q3 ql;rintro e w3 ⟨B1,B2,B3,d1,d2,d3,rfl,hR,hb3⟩
 obtain⟨m1,hm1⟩:∃y,y=r.ps.length:=⟨_,rfl⟩;obtain⟨m2,hm2⟩:∃y,y=r.ls.length:=⟨_,rfl⟩
 have hm3:r.body.len=2:=by rw[hr'.out];exact FT
 have hY3:=wF.new hR;have hb4:=aA w3 (.cells (fnC r.nm B1 B2 B3 r.ps.length d1 r.ls.length d2 r.body.len d3) 26);obtain⟨w4,hw4⟩:∃x,x=w3.alloc (.cells (fnC r.nm B1 B2 B3 r.ps.length d1 r.ls.length d2 r.body.len d3) 26):=⟨_,rfl⟩;obtain⟨g4,hg4⟩:∃x,x=w3.heap.size:=⟨_,rfl⟩;rw[←hw4,←hg4]at hY3;rw[←hw4]at hb4;have hX4:=(hX1'.out.below hb3).below hb4
 have hB4:=Lib.hid ((hB2.out.trans (hb3.mono hB2.out.size)).trans (hb4.mono (hB2.out.trans (hb3.mono hB2.out.size)).size));have hY4:=Lib.hid hY3;obtain⟨q0,q1,q2,q3,ql⟩:=hX4.facts;have hc5:=Lib.hid (lD w4 f Fnc.none [103] (-1) 62 (by rw[hf'.out];exact FQ) hX4.at_);have hfo:=Lib.hid hw4.symm;have hg4':=Lib.hid hg4.symm;rw[←hN.out.1,←hN.out.2.1,←hN.out.2.2]at hc5
 rw[←hN.out.1]at q1;rw[←hN.out.2.1]at q2;rw[←hN.out.2.2]at q3;unfold fnC ay at hc5;rw[←hm1,←hm2,hm3]at hfo⊢;unfold fnC at hfo⊢;have hM:=Lib.hid (And.intro hm1 (And.intro hm2 hm3));clear hR hb3 hb4 hw4 hg4 hX4 hY3 hm1 hm2 hm3 hX1' hB2;go_upto_region 3 with(fail);rw[hfo.out,hg4'.out];clear hfo hg4';go_wp2_with fail;refine hc5.out.mono ?_;clear hc5 q0 q1 q2 q3 ql
 rintro e w5 ⟨C1,C2,C3,e1,e2,e3,rfl,-,hb5⟩;have hb6:=aA w5 (.cells #[.string (ay Fnc.none.nm),.slice C1 Fnc.none.ps.length e1,.slice C2 Fnc.none.ls.length e2,.slice C3 Fnc.none.body.len e3] 26);have hY6:=hY4.out.below hb5;have hB6:=hB4.out.trans (hb5.mono hB4.out.size)
 obtain⟨w6,hw6⟩:∃x,x=w5.alloc (.cells #[.string (ay Fnc.none.nm),.slice C1 Fnc.none.ps.length e1,.slice C2 Fnc.none.ls.length e2,.slice C3 Fnc.none.body.len e3] 26):=⟨_,rfl⟩;rw[←hw6]at hb6;have hY7:=hY6.below hb6;have hB7:=Lib.hid (hB6.trans (hb6.mono hB6.size));have hY7':=Lib.hid hY7
 have hkh:Hid ((pI r.body).k=2∧(pI r.body).y= [112]):=Lib.hid (by rw[hr'.out];exact EU)
 have hne:r.body≠.nil:=fun e=>by have h1:=hM.out.2.2;rw[e]at h1;simp[Sl.len]at h1
 obtain⟨b,off,rfl,t0,t2,tl⟩:=xR hY7.at_.body hne;rw[hkh.out.1]at t0;rw[hkh.out.2]at t2;unfold ay at t2;obtain⟨q0,q1,q2,q3,ql⟩:=hY7.facts;rw[←hM.out.1]at q1;rw[←hM.out.2.1]at q2;rw[hM.out.2.2]at q3;have cC:=Lib.hid (Ei w6 r B1 B2 (some ⟨b,off,none⟩) d1 d2 d3 hY7.at_ (by rw[hr'.out];exact DF))
 have hLC:Hid (canon (each (globs (cZ (r.ps++r.ls)) iw) r.body)= [[103]]):=Lib.hid (by rw[hr'.out];exact DJ);rw[hLC.out,←hM.out.1,←hM.out.2.1,hM.out.2.2]at cC;unfold fnC at cC;have hfo:=Lib.hid hw6.symm;clear hb5 hb6 hY6 hB6 hw6 hY7 hkh hne hLC hY4 hB4;unfold fnC;go_upto_region 4 with(fail);rw[hfo.out];clear hfo;go_wp2_with fail;refine cC.out.mono ?_
 clear cC q0 q1 q2 q3 ql t0 t2 tl;rintro e w8 ⟨⟨v,rfl,ho⟩,hb8⟩;obtain⟨vA,vc,rfl,hcs⟩:=wI w6 w8 v [103] ho;have hcs':=Lib.hid hcs;have hY8:=hY7'.out.below hb8;obtain⟨q0,q1,q2,q3,ql⟩:=hY8.facts;rw[←hM.out.1]at q1;rw[←hM.out.2.1]at q2;rw[hM.out.2.2]at q3;have hB8:=Lib.hid (hB7.out.trans (hb8.mono hB7.out.size));have hY8':=Lib.hid hY8
 have hl1:Hid ([[103]].length=1):=Lib.hid rfl;clear ho hcs hb8 hY8 hY7' hB7;go_wp2_with fail;refine hcs'.out.mono ?_;clear hcs' q0 q1 q2 q3 ql;rintro e w9 ⟨rfl,hb9⟩;have hY9:=hY8'.out.below hb9;obtain⟨q0,q1,q2,q3,ql⟩:=hY9.facts;rw[←hM.out.1]at q1;rw[←hM.out.2.1]at q2;rw[hM.out.2.2]at q3
 have cL:=Lib.hid (BH w9 r B1 B2 (some ⟨b,off,none⟩) d1 d2 d3 hY9.at_ (by rw[hr'.out];exact EX));have hLC:Hid (canon (each (hdP (cZ (r.ps++r.ls))) r.body)= [[99]]):=Lib.hid (by rw[hr'.out];exact DI);rw[hLC.out,←hM.out.1,←hM.out.2.1,hM.out.2.2]at cL;unfold fnC at cL;have hB9:=Lib.hid (hB8.out.trans (hb9.mono hB8.out.size));clear hb9 hY9 hLC hY8' hB8
 go_wp2_with fail;refine cL.out.mono ?_;clear cL q0 q1 q2 q3 ql;rintro e wa ⟨⟨v,rfl,ho⟩,hba⟩;obtain⟨uA,uc,rfl,hcs⟩:=wI w9 wa v [99] ho;have hcs':=Lib.hid hcs;have hBa:=Lib.hid (hB9.out.trans (hba.mono hB9.out.size));clear ho hcs hba hB9;go_wp2_with fail;refine hcs'.out.mono ?_;clear hcs';rintro e wb ⟨rfl,hbb⟩;have hBb:=hBa.out.trans (hbb.mono hBa.out.size)
 have hbc:=aA wb (.cells #[.string ⟨#[97]⟩,.string ⟨#[97]⟩] 9);have hck:=Lib.hid (check_any (wb.alloc (.cells #[.string ⟨#[97]⟩,.string ⟨#[97]⟩] 9)) (some ⟨wb.heap.size,0,none⟩) 2 2 [[97],[97]] rfl (by omega) (by simp) (Row.fresh wb 9 [.string ⟨#[97]⟩,.string ⟨#[97]⟩]));rw[DC]at hck;have hBc:=Lib.hid (hBb.trans (hbc.mono hBb.size));clear hBb hbc hbb hBa;go_wp2_with fail
 refine hck.out.mono ?_;clear hck;rintro e wd ⟨rfl,hbd⟩;have hBd:=Lib.hid (hBc.out.trans (hbd.mono hBc.out.size));clear hbd hBc;go_wp2_with fail;go_ret;exact⟨rfl,hBd.out⟩
end Go.Proofs.YtpndglghpojjkaaGreat
namespace Go.Proofs.YtpndglghpojjkaaGreat
open Go.RowKit Go.ChangeShapes Go.WideShapes Go.Deep
def Trd (t:TypeId) (W:World) (cs:List Value):Prop:=
 ∃(H:Type) (enc:TypeId×Value→H) (fuel:Nat) (x:DataW H×List MemPlace),DataW.trod enc Tryz.prog W 0 (fun _=>true) true fuel t cs=some x
theorem gQ.trd {t:TypeId} {W:World} {v:Value} (h:gQ t W v):Trd t W v.cells.toList:=by
 obtain⟨H,enc,d,p,base,hok,fuel,hf⟩:=h;exact⟨H,enc,fuel,_,hf⟩
theorem zV {α:Type} {C:Nat}:∀{css:List (List α)} (_:∀x∈css,x.length=C) {j:Nat} {u:α},css.flatten[j]? =some u→∃i r cs,css[i]? =some cs∧cs[r]? =some u∧j=i*C+r∧r<C
 | [],_,j,u,h=>by simp at h
 |c::css,hl,j,u,h=>by
  have hc:=hl c (List.mem_cons_self ..);rw[List.flatten_cons]at h;rcases Nat.lt_or_ge j C with hj|hj
  ·rw[List.getElem?_append_left (by omega)]at h;exact⟨0,j,c,rfl,h,by omega,hj⟩
  ·rw[List.getElem?_append_right (by omega),hc]at h;obtain⟨i,r,cs,h1,h2,h3,h4⟩:=zV (fun x hx=>hl x (List.mem_cons_of_mem _ hx)) h;exact⟨i+1,r,cs,by simpa using h1,h2,by rw[Nat.add_mul];omega,h4⟩
theorem vK {W:World} {a:Addr} {vs:List Value} (hc:∀j u,vs[j]? =some u→W.cell? (a.add j)=some u):Row W W.heap.size (some a) vs:=fun hne=>by
 obtain⟨b,off,spot⟩:=a
 obtain⟨u0,hu0⟩:∃u,vs[0]? =some u:=by
  cases vs with
  |nil=>exact absurd rfl hne
  |cons x r=>exact⟨x,rfl⟩
 have h0:=hc 0 u0 hu0
 have hspot:spot=none:=by simpa[Addr.add]using World.cell?_spot h0
 subst hspot
 have hadd:∀j,(⟨b,off,none⟩:Addr).add j=⟨b,off+j,none⟩:=by intro j;unfold Addr.add;split<;>simp_all
 refine⟨b,off,rfl,?_,fun j u hu=>by rw[←hadd];exact hc j u hu⟩;rw[hadd]at h0;exact block_lt_of_cell h0
theorem add_add' (a:Addr) (i j:Nat):(a.add i).add j=a.add (i+j):=by
 unfold Addr.add;split<;>split<;>simp_all<;>omega
theorem Trd.slice {t e:TypeId} {W:World} {cs:List Value} (ht:Tryz.prog.underlying t=some (.slice e)) (h:Trd t W cs):
  ∃(A:Option Addr) (n c:Nat) (css:List (List Value)),cs= [.slice A n c]∧css.length=n∧n≤c∧c≤maxLen∧(∀x∈css,x.length=Tryz.prog.cellsOf e∧Trd e W x)∧Row W W.heap.size A css.flatten:=by
 obtain⟨H,enc,fuel,x,hf⟩:=h;rcases open_slice ht hf with⟨rfl,_⟩| ⟨a,len,cap,m,n,D,Pl,rfl,_,hl,hm,hmm,_,hi⟩
 ·exact⟨none,0,0,[],rfl,rfl,Nat.le_refl _,by simp,fun x hx=>by simp at hx,Row.nil_ _ _ _⟩
 ·simp only[if_true]at hmm;subst hmm;obtain⟨f,hfl⟩:=choose_lt (p:=fun i cs'=>W.cells? 0 (a.add (i*Tryz.prog.cellsOf e)) (Tryz.prog.cellsOf e)=some cs'∧DataW.trod enc Tryz.prog W 0 (fun _=>true) true n e cs'=some (D i,Pl i)) (fun i him=>hi i him)
  have hlen:∀x∈(List.range len).map f,x.length=Tryz.prog.cellsOf e:=by intro x hx;obtain⟨i,hi',rfl⟩:=List.mem_map.1 hx;exact(World.cells?_some (hfl i (by have:=List.mem_range.1 hi';omega)).1).2.1
  refine⟨some a,len,m,(List.range len).map f,rfl,by simp,hl,hm,fun x hx=>⟨hlen x hx,?_⟩,vK fun j u hu=> ?_⟩
  ·obtain⟨i,hi',rfl⟩:=List.mem_map.1 hx;exact⟨H,enc,n,_,(hfl i (by have:=List.mem_range.1 hi';omega)).2⟩
  ·obtain⟨i,r,cs,h1,h2,rfl,hr⟩:=zV hlen hu
   have hil:i<len:=by
    rcases Nat.lt_or_ge i len with h|h
    ·exact h
    ·rw[List.getElem?_eq_none (by simp;omega)]at h1;cases h1
   have e1:f i=cs:=by simpa[hil]using h1
   obtain⟨_,_,hat⟩:=World.cells?_some (hfl i (by omega)).1;have:=hat r hr;rw[add_add']at this;rw[this,e1,h2]
theorem Trd.int {k:IntKind} {t:TypeId} {W:World} {cs:List Value} (ht:Tryz.prog.underlying t=some (.int k)) (h:Trd t W cs):∃n,cs= [.int k n]∧(Lit.int k n).wf=true:=by
 obtain⟨H,enc,fuel,x,hf⟩:=h;obtain⟨n,h1,_,h2⟩:=DataW.trod_int ht hf;exact⟨n,h1,h2⟩
theorem Trd.bool {t:TypeId} {W:World} {cs:List Value} (ht:Tryz.prog.underlying t=some .bool) (h:Trd t W cs):∃b,cs= [.bool b]:=by
 obtain⟨H,enc,fuel,x,hf⟩:=h;obtain⟨b,h1,_⟩:=DataW.trod_bool ht hf;exact⟨b,h1⟩
theorem Trd.string {t:TypeId} {W:World} {cs:List Value} (ht:Tryz.prog.underlying t=some .string) (h:Trd t W cs):∃s:ByteArray,cs= [.string s]∧s.size≤maxLen:=by
 obtain⟨H,enc,fuel,x,hf⟩:=h;obtain⟨b,h1,_,h2⟩:=DataW.trod_string ht hf;exact⟨b,h1,h2⟩
theorem Trd.struct {fs:Array Field} {t:TypeId} {W:World} {cs:List Value} (ht:Tryz.prog.underlying t=some (.struct fs)) (h:Trd t W cs):
  cs.length=Tryz.prog.cellsOf t∧∀(i:Nat) (f:Field),fs[i]? =some f→Trd f.type W ((cs.drop f.offset).take (Tryz.prog.cellsOf f.type)):=by
 obtain⟨H,enc,fuel,x,hf⟩:=h;obtain⟨xs,n,_,_,hl,hx,hg⟩:=DataW.trod_struct ht hf;refine⟨hl,fun i f hif=> ?_⟩
 have hlt:i<xs.length:=by rw[hx];exact(Array.getElem?_eq_some_iff.1 hif).1
 exact⟨H,enc,n,xs[i],by rw[hg i f hif];exact List.getElem?_eq_getElem hlt⟩
theorem Trd.row {α:Type} {t e:TypeId} {W:World} {cs:List Value} {f:α→Value} {p:α→Prop} (ht:Tryz.prog.underlying t=some (.slice e)) (hd:∀x,Trd e W x→∃a,x= [f a]∧p a) (h:Trd t W cs):
  ∃(A:Option Addr) (n c:Nat) (l:List α),cs= [.slice A n c]∧l.length=n∧n≤c∧c≤maxLen∧(∀a∈l,p a)∧Row W W.heap.size A (l.map f):=by
 obtain⟨A,n,c,css,rfl,hn,hc,hm,hx,hr⟩:=h.slice ht
 have:∀css:List (List Value),(∀x∈css,Trd e W x)→∃l:List α,l.length=css.length∧css.flatten=l.map f∧∀a∈l,p a:=by
  intro css
  induction css with
  |nil=>exact fun _=>⟨[],rfl,rfl,by simp⟩
  |cons y r ih=>
   intro hy;obtain⟨l,h1,h2,h3⟩:=ih fun x hx=>hy x (List.mem_cons_of_mem _ hx);obtain⟨a,rfl,ha⟩:=hd y (hy y (List.mem_cons_self ..));refine⟨a::l,by simp[h1],by simp[h2],fun x hx=> ?_⟩;rcases List.mem_cons.1 hx with rfl|hx
   ·exact ha
   ·exact h3 x hx
 obtain⟨l,h1,h2,h3⟩:=this css fun x hx'=>(hx x hx').2;exact⟨A,n,c,l,rfl,by omega,hc,hm,h3,by rw[←h2];exact hr⟩
end Go.Proofs.YtpndglghpojjkaaGreat
namespace Go.Proofs.YtpndglghpojjkaaGreat
open Go.RowKit Go.Deep Go.Maps Go.ChangeShapes Go.WideShapes
open Go.ChangeMaps (open_string)
theorem gQ.text {W:World} {v:Value} (h:gQ 9 W v):∃s:ByteArray,v= .string s∧s.size≤maxLen:=by
 obtain⟨s,e,hs⟩:=h.trd.string Tryz.underlying9;obtain⟨H,enc,d,p,base,hok,hf⟩:=h;obtain⟨s',rfl,h2⟩:=open_string Tryz.underlying9 hok hf;simp[Value.cells]at e;subst e;exact⟨_,rfl,hs⟩
theorem Gm {f r:Fnc} {unit:S} {a:Int} (h:bK f unit=(r,a,0)):a=0∧r=⟨f.nm,f.ps,f.ls,dI (cZ (f.ps++f.ls)) f.body⟩∧dF (cZ (f.ps++f.ls)) f.body=none∧kC (fQ (f.ps++f.ls))=false∧f.nm=unit∧f.nm≠h_:=by
 unfold bK at h;by_cases h1:f.nm≠unit∨unit=h_
 ·rw[if_pos h1]at h;cases h
 ·rw[if_neg h1]at h;unfold jv at h;have e1:f.nm=unit:=Classical.byContradiction fun e=>h1 (.inl e);have e2:f.nm≠h_:=fun e=>h1 (.inr (e1▸e))
  cases hd:kC (fQ (f.ps++f.ls))with
  |true=>rw[hd,if_pos rfl]at h;cases h
  |false=>
   rw[hd,if_neg (by simp)]at h
   cases hf:dF (cZ (f.ps++f.ls)) f.body with
   |some b=>rw[hf]at h;unfold mG at h;cases h
   |none=>
    rw[hf]at h;unfold mG at h;simp only[Prod.mk.injEq]at h;exact⟨h.2.1.symm,h.1.symm,rfl,rfl,e1,e2⟩
theorem res_of {f:Fnc} (h1:f.nm≠h_) (h2:kC (fQ (f.ps++f.ls))=false) (h3:dF (cZ (f.ps++f.ls)) f.body=none):bK f f.nm=(⟨f.nm,f.ps,f.ls,dI (cZ (f.ps++f.ls)) f.body⟩,0,0):=by
 unfold bK jv;rw[if_neg (by simp only[ne_eq,not_true_eq_false,false_or];exact h1),h2,if_neg (by simp),h3];rfl
end Go.Proofs.YtpndglghpojjkaaGreat
namespace Go.Proofs.YtpndglghpojjkaaGreat
open Go.RowKit Go.Deep
theorem vN {f:Fnc} (hw:WfS f.body) (unit:S):lG f unit=bK f unit:=by
 unfold lG bK;by_cases h1:f.nm=unit
 ·by_cases h2:f.nm=h_
  ·rw[if_pos (.inr h2),if_pos (.inr (h1▸h2))]
  ·rw[if_neg (by rintro(h|h);exact h h1;exact h2 h),if_neg (by rintro(h|h);exact h h1;exact h2 (h1▸h))];unfold AU jv
   cases hd:kC (fQ (f.ps++f.ls))with
   |true=>rfl
   |false=>
    have hk:cZ (f.ps++f.ls)=dX (f.ps++f.ls):=DL ((iR _).1 hd);rw[if_neg (by simp),if_neg (by simp),hk];obtain⟨e1,e2⟩:=jJ (K:=dX (f.ps++f.ls)) hw;rw[←e1]
    cases hs:aO (dX (f.ps++f.ls)) f.body with
    |mk lb ab=>
     rw[hs]at e2
     cases ab with
     |some a=>rfl
     |none=>
      unfold E_ mG;simp only[hk];rw[←e2 rfl]
 ·rw[if_pos (.inl h1),if_pos (.inl h1)]
def EF (f:Fnc) (a b:Int) (w:World) (e:Ending) (w':World):Prop:=∃A1 A2 A3 n1 n2 n3 c1 c2 c3,e= .returned (.tuple #[.agg #[.string (ay f.nm),.slice A1 n1 c1,.slice A2 n2 c2,.slice A3 n3 c3],.int .i64 a,.int .i64 b])∧eP w' Evr f (.slice A1 n1 c1) (.slice A2 n2 c2) (.slice A3 n3 c3)∧Below w.heap.size w w'
theorem vG.num {f:Fnc} {a b:Int} {w w':World} {e:Ending} (h:vG f a b w e w'):EF f a b w e w':=by
 obtain⟨A1,A2,A3,c1,c2,c3,rfl,hF,hb⟩:=h;exact⟨A1,A2,A3,_,_,_,c1,c2,c3,rfl,hF,hb⟩
section
variable {f:Fnc} {A1 A2 A3:Option Addr} {n1 n2 n3 c1 c2 c3:Nat} {w w':World}
theorem eP.nums (h:eP w Evr f (.slice A1 n1 c1) (.slice A2 n2 c2) (.slice A3 n3 c3)):n1=f.ps.length∧n2=f.ls.length∧n3=f.body.len:=by
 obtain⟨A1',A2',A3',c1',c2',c3',e1,e2,e3⟩:=h.slices;injection e1 with _ e1;injection e2 with _ e2;injection e3 with _ e3;exact⟨e1,e2,e3⟩
theorem lF (w:World) {r:Fnc} {unit:S} {a:Int} {b:Nat} (h:bK f unit=(r,a,b)) (hF:eP w Evr f (.slice A1 n1 c1) (.slice A2 n2 c2) (.slice A3 n3 c3)):
  Calls Tryz.prog 10 #[.agg #[.string (ay f.nm),.slice A1 n1 c1,.slice A2 n2 c2,.slice A3 n3 c3],.string (ay unit)] w (EF r a b w):=by
 obtain⟨rfl,rfl,rfl⟩:=hF.nums;exact(lD w f r unit a b h hF).mono fun _ _ h=>h.num
theorem jQ (w:World) {r:Fnc} {unit:S} {a:Int} {b:Nat} (hw:WfS f.body) (h:bK f unit=(r,a,b)) (hF:eP w Evr f (.slice A1 n1 c1) (.slice A2 n2 c2) (.slice A3 n3 c3)):
  Calls Tryz.prog 11 #[.agg #[.string (ay f.nm),.slice A1 n1 c1,.slice A2 n2 c2,.slice A3 n3 c3],.string (ay unit)] w (EF r a b w):=by
 obtain⟨rfl,rfl,rfl⟩:=hF.nums;rw[←vN hw]at h;exact(sV w f unit A1 A2 A3 c1 c2 c3 hF).mono fun _ _ h2=>(h2.out h).num
theorem pG (w:World) {B1 B2 B3:Option Addr} {m1 m2 m3 d1 d2 d3:Nat} (hF:eP w Evr f (.slice A1 n1 c1) (.slice A2 n2 c2) (.slice A3 n3 c3)) (hG:eP w Evr f (.slice B1 m1 d1) (.slice B2 m2 d2) (.slice B3 m3 d3)):
  Calls Tryz.prog 12 #[.agg #[.string (ay f.nm),.slice A1 n1 c1,.slice A2 n2 c2,.slice A3 n3 c3],.agg #[.string (ay f.nm),.slice B1 m1 d1,.slice B2 m2 d2,.slice B3 m3 d3]] w fun e w'=>e= .returned (.bool true)∧Below w.heap.size w w':=by
 obtain⟨rfl,rfl,rfl⟩:=hF.nums;obtain⟨rfl,rfl,rfl⟩:=hG.nums;exact Bo w f A1 A2 A3 B1 B2 B3 c1 c2 c3 d1 d2 d3 hF hG
structure jH (g:Nat) (f:Fnc) (A1 A2 A3:Option Addr) (n1 n2 n3 c1 c2 c3:Nat) (w:World):Prop where
 h:Holds w g 26 #[.string (ay f.nm),.slice A1 n1 c1,.slice A2 n2 c2,.slice A3 n3 c3]
 at_:eP w Evr f (.slice A1 n1 c1) (.slice A2 n2 c2) (.slice A3 n3 c3)
theorem jH.below {g:Nat} (h:jH g f A1 A2 A3 n1 n2 n3 c1 c2 c3 w) (hb:Below w.heap.size w w'):jH g f A1 A2 A3 n1 n2 n3 c1 c2 c3 w':=⟨h.h.below hb h.h.lt,h.at_.below hb⟩
theorem jH.new (h:eP w Evr f (.slice A1 n1 c1) (.slice A2 n2 c2) (.slice A3 n3 c3)):jH w.heap.size f A1 A2 A3 n1 n2 n3 c1 c2 c3 (w.alloc (.cells #[.string (ay f.nm),.slice A1 n1 c1,.slice A2 n2 c2,.slice A3 n3 c3] 26)):=⟨Holds.new w _ _,h.below (aA w _)⟩
theorem jH.facts {g:Nat} (h:jH g f A1 A2 A3 n1 n2 n3 c1 c2 c3 w):w.cell? ⟨g,0,none⟩=some (.string (ay f.nm))∧w.cell? ⟨g,1,none⟩=some (.slice A1 n1 c1)∧w.cell? ⟨g,2,none⟩=some (.slice A2 n2 c2)∧w.cell? ⟨g,3,none⟩=some (.slice A3 n3 c3)∧g<w.heap.size:=
 ⟨h.h.cell 0,h.h.cell 1,h.h.cell 2,h.h.cell 3,h.h.lt⟩
end
end Go.Proofs.YtpndglghpojjkaaGreat
