/-
  8 texts of the proof, in one file: no condition.
-/
import Derived.Deep.CutBlock
import Derived.Deep.Slices
import Derived.Test.YtpndglghpojjkaaGreatPua13
set_option maxRecDepth 1000000
set_option maxHeartbeats 8000000
namespace Go.Proofs.YtpndglghpojjkaaGreat
open Go.RowKit Go.Deep
def hlR (h:Hd):List S:=eY h++(exL h.e++(exL h.f++cnL h.c))
def hC (F:FnV) (c:List S) (h:Hd):List S:=(hlR h).foldl (addN F) c
def hA (a:List S) (h:Hd):List S:=(jd h).foldl bH a
def hLc (l:List S) (h:Hd):List S:=(iw h).foldl bH l
def hN (h:Hd):Nat:=(hlR h).length+1
def uN:Sl→Nat
 | .nil=>0
 | .cons h t e r=>hN h+(uN t+(uN e+uN r))
def uC (F:FnV):Sl→List S→List S
 | .nil,c=>c
 | .cons h t e r,c=>uC F r (uC F e (uC F t (hC F c h)))
def uA:Sl→List S→List S
 | .nil,a=>a
 | .cons h t e r,a=>uA r (uA e (uA t (hA a h)))
def uL:Sl→List S→List S
 | .nil,l=>l
 | .cons h t e r,l=>uL r (uL e (uL t (hLc l h)))
theorem UsB.Dn {F:FnV} {gu B:Nat} {c a l:List S} {y:S} {w0 w wq:World} {A':Option Addr} {c':Nat} (h:UsB F gu B c a l w0 w) (hb:Below w.heap.size w wq) (hr:Row wq wq.heap.size A' ((bH a y).map encStr)) (hc:(bH a y).length≤c'):
  UsB F gu (B+1) c (bH a y) l w0 (wq.setCell ⟨gu,5,none⟩ (.slice A' (bH a y).length c'))∧Writes [some gu] w (wq.setCell ⟨gu,5,none⟩ (.slice A' (bH a y).length c')):=by
 obtain⟨X1,X2,X3,k1,k2,k3,hH,⟨r1,e1⟩,⟨r2,e2⟩,r3,e3⟩:=h.row;have hH2:=hH.below hb hH.lt;have q:=hH2.cell 5;have hW:Writes [some gu] wq (wq.setCell ⟨gu,5,none⟩ (.slice A' (bH a y).length c')):=Writes.store wq (by simp) _;have hlen:=oG a y;have hl:=h.lc;refine⟨⟨⟨X1,A',X3,k1,c',k3,?_,⟨(((r1.below hb).more hb.size).other q _).more hW.size,e1⟩,⟨(hr.other q _).more hW.size,hc⟩,(((r3.below hb).more hb.size).other q _).more hW.size,e3⟩,h.ok,(h.below hb).bl.trans (hW.below (h.below hb).bl.size (fun k hk=>by simp at hk;rw[hk];exact h.lo)),h.lo,by omega⟩,(Writes.of_below hb _).trans hW⟩;have:=hH2.store 5 (.slice A' (bH a y).length c');simpa[usC]using this
theorem UsB.putL {F:FnV} {gu B:Nat} {c a l:List S} {y:S} {w0 w wq:World} {A':Option Addr} {c':Nat} (h:UsB F gu B c a l w0 w) (hb:Below w.heap.size w wq) (hr:Row wq wq.heap.size A' ((bH l y).map encStr)) (hc:(bH l y).length≤c'):
  UsB F gu (B+1) c a (bH l y) w0 (wq.setCell ⟨gu,6,none⟩ (.slice A' (bH l y).length c'))∧Writes [some gu] w (wq.setCell ⟨gu,6,none⟩ (.slice A' (bH l y).length c')):=by
 obtain⟨X1,X2,X3,k1,k2,k3,hH,⟨r1,e1⟩,⟨r2,e2⟩,r3,e3⟩:=h.row;have hH2:=hH.below hb hH.lt;have q:=hH2.cell 6;have hW:Writes [some gu] wq (wq.setCell ⟨gu,6,none⟩ (.slice A' (bH l y).length c')):=Writes.store wq (by simp) _;have hlen:=oG l y;have hl:=h.lc;refine⟨⟨⟨X1,X2,A',k1,k2,c',?_,⟨(((r1.below hb).more hb.size).other q _).more hW.size,e1⟩,⟨(((r2.below hb).more hb.size).other q _).more hW.size,e2⟩,(hr.other q _).more hW.size,hc⟩,h.ok,(h.below hb).bl.trans (hW.below (h.below hb).bl.size (fun k hk=>by simp at hk;rw[hk];exact h.lo)),h.lo,by omega⟩,(Writes.of_below hb _).trans hW⟩;have:=hH2.store 6 (.slice A' (bH l y).length c');simpa[usC]using this
def G6 (F:FnV) (gu:Nat) (w0:World) (s:Sl):Prop:=∀(w:World) (B:Nat) (c a l:List S) (v:Value),aQ w0 Evr s v→UsB F gu B c a l w0 w→B+uN s≤100000→
 Calls Tryz.prog 51 #[.pointer (some ⟨gu,0,none⟩),v] w fun e' w'=>e'= .returned (.tuple #[])∧UsB F gu (B+uN s) (uC F s c) (uA s a) (uL s l) w0 w'∧Writes [some gu] w w'
theorem Fv (F:FnV) (gu:Nat) (w0:World) (l0:Sl) (ih:∀l',l'.dep<l0.dep→G6 F gu w0 l'):G6 F gu w0 l0:=by
 intro w B c a l v hv hU hB;obtain⟨A,cc,us0,e,hlen,hlc,hR⟩:=hv.rest;subst e;obtain⟨n,hn⟩:∃y,y=l0.len:=⟨_,rfl⟩;rw[←hn]at hlen hlc⊢;have h0:Hid (dQ w0 Evr A 0 l0 us0):=Za hR;have hn0:Hid (0+l0.len=n):=Za (by rw[hn];simp);have hd0:Hid (l0.dep≤l0.dep):=Za (Nat.le_refl _);obtain⟨BN,hBN⟩:∃y,y=B+uN l0:=⟨_,rfl⟩;obtain⟨C,hC⟩:∃y,y=uC F l0 c:=⟨_,rfl⟩;obtain⟨AA,hA⟩:∃y,y=uA l0 a:=⟨_,rfl⟩;obtain⟨LL,hL⟩:∃y,y=uL l0 l:=⟨_,rfl⟩;rw[←hBN]at hB;rw[←hBN,←hC,←hA,←hL];have he0:Hid (BN=B+uN l0∧C=uC F l0 c∧AA=uA l0 a∧LL=uL l0 l):=Za ⟨hBN,hC,hA,hL⟩;have hih:=Za ih;have hU0:=Za hU;have hB':=Za hB;clear hv hR hn ih hU hB hBN hC hA hL;go_enter Tryz.func51,Tryz.ntmps51;go_wp2_with fail;go_loopw [4] (fun i wl=>∃(k:Nat) (ls:Sl) (vs:List Value) (B':Nat) (c' a' l':List S),k≤n∧i= .int .i64 k∧Hid (dQ w0 Evr A k ls vs)∧Hid (UsB F gu B' c' a' l' w0 wl)∧Hid (BN=B'+uN ls∧C=uC F ls c'∧AA=uA ls a'∧LL=uL ls l')∧Hid (k+ls.len=n)∧Hid (ls.dep≤l0.dep)∧Hid (Writes [some gu] w wl)) (fun i _=>n-(intOf i).toNat)
 case atStart=>exact⟨0,l0,us0,B,c,a,l,by omega,rfl,h0,hU0,he0,hn0,hd0,Za (Writes.refl _ _)⟩
 clear h0 hn0 hd0 he0 hU0;obtain⟨k,ls,vs,B',c',a',l',hkn,rfl,hR,hU,he,hln,hdp,hW⟩:=hrel;rename World=>wl
 cases ls with
 |nil=>
  have hkn2:k=n:=by have:=hln.out;simp[Sl.len]at this;exact this
  subst hkn2;clear hR;go_wp2_with fail;go_end0;obtain⟨e1,e2,e3,e4⟩:=he.out;refine⟨rfl,?_,hW.out⟩;rw[e1,e2,e3,e4];exact hU.out
 |cons h t e r=>
  have hlt:k<n:=by have:=hln.out;simp only[Sl.len]at this;omega
  obtain⟨b,off,pe,pf,pc,Aa,ca,At,ct,Al,cl,us',hA,hh,ht,he',hc,hrest⟩:=hR.out.next;subst hA;have hrest':=Za hrest;have hdt:Hid (t.dep<l0.dep∧e.dep<l0.dep∧r.dep≤l0.dep):=Za (by have:=hdp.out;rw[Sl.lU]at this;omega);have hrl:Hid (k+1+r.len=n):=Za (by have:=hln.out;simp only[Sl.len]at this;omega);have hht:=Za (And.intro hh (And.intro ht he'));have hq:∀j (hj:j<10),wl.cell? ⟨b,off+k*10+j,none⟩=some ((stC h pe pf pc Aa At Al h.args.length ca t.len ct e.len cl)[j]'hj):=fun j hj=>(hU.out.bl.cell (p:=⟨b,off+k*10+j,none⟩) (lt_of_cell (hc j hj))).trans (hc j hj);obtain⟨na,hna⟩:∃y,y=h.args.length:=⟨_,rfl⟩;obtain⟨nt,hnt⟩:∃y,y=t.len:=⟨_,rfl⟩;obtain⟨nl,hnl⟩:∃y,y=e.len:=⟨_,rfl⟩;simp only[←hna,←hnt,←hnl]at hq;rw[←hna,←hnt,←hnl]at hht;have q0:wl.cell? ⟨b,off+k*10,none⟩=some (.int .i64 h.k):=hq 0 (by decide);have q1:wl.cell? ⟨b,off+k*10+1,none⟩=some (.string (ay h.x)):=hq 1 (by decide);have q2:wl.cell? ⟨b,off+k*10+2,none⟩=some (.string (ay h.y)):=hq 2 (by decide)
  have q3:wl.cell? ⟨b,off+k*10+3,none⟩=some (.pointer pe):=hq 3 (by decide);have q4:wl.cell? ⟨b,off+k*10+4,none⟩=some (.pointer pf):=hq 4 (by decide);have q5:wl.cell? ⟨b,off+k*10+5,none⟩=some (.pointer pc):=hq 5 (by decide);have q6:wl.cell? ⟨b,off+k*10+6,none⟩=some (.slice Aa na ca):=hq 6 (by decide);have q7:wl.cell? ⟨b,off+k*10+7,none⟩=some (.slice At nt ct):=hq 7 (by decide);have q8:wl.cell? ⟨b,off+k*10+8,none⟩=some (.slice Al nl cl):=hq 8 (by decide);have q9:wl.cell? ⟨b,off+k*10+9,none⟩=some (.int .i64 h.at_):=hq 9 (by decide);have ql:=lt_of_cell q9;have hbn:=aA wl (.cells #[.int .i64 h.k,.string (ay h.x),.string (ay h.y),.pointer pe,.pointer pf,.pointer pc,.slice Aa na ca,.slice At nt ct,.slice Al nl cl,.int .i64 h.at_] 63);obtain⟨ws,hws⟩:∃y,y=wl.alloc (.cells #[.int .i64 h.k,.string (ay h.x),.string (ay h.y),.pointer pe,.pointer pf,.pointer pc,.slice Aa na ca,.slice At nt ct,.slice Al nl cl,.int .i64 h.at_] 63):=⟨_,rfl⟩;obtain⟨gs,hgs⟩:∃y,y=wl.heap.size:=⟨_,rfl⟩
  have hHs:Holds ws gs 63 #[.int .i64 h.k,.string (ay h.x),.string (ay h.y),.pointer pe,.pointer pf,.pointer pc,.slice Aa na ca,.slice At nt ct,.slice Al nl cl,.int .i64 h.at_]:=by rw[hws,hgs];exact Holds.new wl _ _
  rw[←hws]at hbn
  have hgu:gs≠gu:=by have:=hU.out.row;obtain⟨_,_,_,_,_,_,hH,-⟩:=this;have:=hH.lt;omega
  have hUs:=Za (hU.out.below hbn);have hWs:=Za (hW.out.trans (Writes.of_below hbn [some gu]));have hfo:=Za hws.symm;have hgo:=Za hgs.symm;have qJ:=Za hHs;have hna':=Za hna;clear hh ht he' hc hrest hq hna hnt hnl hR hU hW hbn hws hgs hHs;go_upto_region 4 with(fail);rw[hfo.out,hgo.out];clear hfo hgo q0 q1 q2 q3 q4 q5 q6 q7 q8 q9 ql;have s0:ws.cell? ⟨gs,0,none⟩=some (.int .i64 h.k):=qJ.out.cell 0;have sl:=qJ.out.lt;go_upto_block 2 with fail;go_cut [] (fun wx=>Hid (UsB F gu (B'+((eY h).length+1)) ((eY h).foldl (addN F) c') (hA a' h) (hLc l' h) w0 wx∧Writes [some gu] ws wx))
  case' first=>
   rcases(show h.k=0∨h.k=4∨h.k=1∨h.k=6∨h.k=7∨h.k=8∨(h.k=2∨h.k=3∨h.k=5∨9≤h.k)by omega)with hk|hk|hk|hk|hk|hk|hk
   ·have d1:Hid (eY h= [h.x]∧jd h= []∧iw h= []):=Za (by unfold eY jd iw;simp[hk])
    have b0:((h.k:Int)==0)=true:=by simp;omega
    have b4:((h.k:Int)==4)=false:=by simp;omega
    have b1:((h.k:Int)==1)=false:=by simp;omega
    have b6:((h.k:Int)==6)=false:=by simp;omega
    have b7:((h.k:Int)==7)=false:=by simp;omega
    have b8:((h.k:Int)==8)=false:=by simp;omega
    have s1:ws.cell? ⟨gs,1,none⟩=some (.string (ay h.x)):=qJ.out.cell 1;clear hk;go_wp2_with fail;refine(jl F gu B' c' a' l' w0 ws hUs.out (by have:=he.out.1;have:=hB'.out;omega) h.x).mono ?_;rintro e5 w5 ⟨rfl,hU5,hW5⟩;have hend:Hid (UsB F gu (B'+((eY h).length+1)) ((eY h).foldl (addN F) c') (hA a' h) (hLc l' h) w0 w5∧Writes [some gu] ws w5):=Za (by unfold hA hLc;rw[d1.out.1,d1.out.2.1,d1.out.2.2];exact⟨hU5.more (by simp),hW5⟩);clear hU5 hW5 d1;go_wp2_with fail
    go_meet
    case rel=>exact hend
   ·have d1:Hid (eY h= [h.x]∧jd h= []∧iw h= []):=Za (by unfold eY jd iw;simp[hk])
    have b0:((h.k:Int)==0)=false:=by simp;omega
    have b4:((h.k:Int)==4)=true:=by simp;omega
    have b1:((h.k:Int)==1)=false:=by simp;omega
    have b6:((h.k:Int)==6)=false:=by simp;omega
    have b7:((h.k:Int)==7)=false:=by simp;omega
    have b8:((h.k:Int)==8)=false:=by simp;omega
    have s1:ws.cell? ⟨gs,1,none⟩=some (.string (ay h.x)):=qJ.out.cell 1;clear hk;go_wp2_with fail;refine(jl F gu B' c' a' l' w0 ws hUs.out (by have:=he.out.1;have:=hB'.out;omega) h.x).mono ?_;rintro e5 w5 ⟨rfl,hU5,hW5⟩;have hend:Hid (UsB F gu (B'+((eY h).length+1)) ((eY h).foldl (addN F) c') (hA a' h) (hLc l' h) w0 w5∧Writes [some gu] ws w5):=Za (by unfold hA hLc;rw[d1.out.1,d1.out.2.1,d1.out.2.2];exact⟨hU5.more (by simp),hW5⟩);clear hU5 hW5 d1;go_wp2_with fail
    go_meet
    case rel=>exact hend
   ·have d1:Hid (eY h= [h.y]∧jd h= []∧iw h= []):=Za (by unfold eY jd iw;simp[hk])
    have b0:((h.k:Int)==0)=false:=by simp;omega
    have b4:((h.k:Int)==4)=false:=by simp;omega
    have b1:((h.k:Int)==1)=true:=by simp;omega
    have b6:((h.k:Int)==6)=false:=by simp;omega
    have b7:((h.k:Int)==7)=false:=by simp;omega
    have b8:((h.k:Int)==8)=false:=by simp;omega
    have s1:ws.cell? ⟨gs,2,none⟩=some (.string (ay h.y)):=qJ.out.cell 2;clear hk;go_wp2_with fail;refine(jl F gu B' c' a' l' w0 ws hUs.out (by have:=he.out.1;have:=hB'.out;omega) h.y).mono ?_;rintro e5 w5 ⟨rfl,hU5,hW5⟩;have hend:Hid (UsB F gu (B'+((eY h).length+1)) ((eY h).foldl (addN F) c') (hA a' h) (hLc l' h) w0 w5∧Writes [some gu] ws w5):=Za (by unfold hA hLc;rw[d1.out.1,d1.out.2.1,d1.out.2.2];exact⟨hU5.more (by simp),hW5⟩);clear hU5 hW5 d1;go_wp2_with fail
    go_meet
    case rel=>exact hend
   ·have d1:Hid (eY h= [h.x]∧jd h= [h.y]∧iw h= []):=Za (by unfold eY jd iw;simp[hk])
    have b0:((h.k:Int)==0)=false:=by simp;omega
    have b4:((h.k:Int)==4)=false:=by simp;omega
    have b1:((h.k:Int)==1)=false:=by simp;omega
    have b6:((h.k:Int)==6)=true:=by simp;omega
    have b7:((h.k:Int)==7)=false:=by simp;omega
    have b8:((h.k:Int)==8)=false:=by simp;omega
    have s1:ws.cell? ⟨gs,1,none⟩=some (.string (ay h.x)):=qJ.out.cell 1;clear hk;go_wp2_with fail;refine(jl F gu B' c' a' l' w0 ws hUs.out (by have:=he.out.1;have:=hB'.out;omega) h.x).mono ?_;rintro e5 w5 ⟨rfl,hU5,hW5⟩;replace hU5:=Za hU5;replace hW5:=Za hW5;obtain⟨wW,hwW⟩:∃z,z=w5.drew:=⟨_,rfl⟩
    have hbd:Below w5.heap.size w5 wW:=by rw[hwW];exact(Below.refl _ w5).drew
    obtain⟨y,hy⟩:∃z,z=h.y:=⟨_,rfl⟩;obtain⟨lA,hlA⟩:∃z,z=a':=⟨_,rfl⟩;have hUW:=hU5.out.below hbd;have hWW:=Za (hW5.out.trans (Writes.of_below hbd [some gu]));have hSW:=hWW.out.holds qJ.out (by simp;exact hgu);obtain⟨Y1,XA,Y3,j1,kA,j3,hHu,-,⟨rA,eA⟩,-⟩:=hUW.row
    have hfc:Hid (∀wx,Below wW.heap.size wW wx→wx.cell? ⟨gu,5,none⟩=some (.slice XA lA.length kA)∧gu<wx.heap.size∧wx.cell? ⟨gs,2,none⟩=some (.string (ay y))∧gs<wx.heap.size∧wx.frozen? ⟨gu,5,none⟩=false):=Za fun wx hx=>by have g1:=hHu.below hx hHu.lt;have g2:=hSW.below hx hSW.lt;rw[hlA,hy];exact⟨g1.cell 5,g1.lt,g2.cell 2,g2.lt,g1.frozen 5⟩
    have hadd:Hid (∀wx,Below wW.heap.size wW wx→Calls Tryz.prog 101 #[.slice XA lA.length kA,.string (ay y)] wx (Fj wx (bH lA y))):=Za fun wx hx=>by rw[hlA];exact add_any wx XA a'.length kA a' y rfl (by have h1:=hUW.lc;have h2:=he.out.1;have h3:=hB'.out;simp only[uN,hN,hlR]at h2;have h4:=d1.out.1;simp[h4]at h2;omega) eA ((rA.below hx).more hx.size)
    have hgo:Hid (Below wW.heap.size wW w5.drew):=Za (by rw[←hwW];exact Below.refl _ _);replace hUW:=Za hUW;have hy':=Za hy;have hlA':=Za hlA;clear hwW hbd hSW hHu rA eA hy hlA;go_wp2_with fail;refine aC ((eqv (.pointer (some ⟨gu,0,none⟩)))::(eqv (.pointer (some ⟨gu,0,none⟩)))::(eqv (.pointer (some ⟨gu,0,none⟩)))::(eqv (.pointer (some ⟨gu,5,none⟩)))::(eqv (.slice XA lA.length kA))::(eqv (.pointer (some ⟨gs,2,none⟩)))::(eqv (.string (ay y)))::(fun L w v=>Till 10 (fun w v=>∃A' c',v= .slice A' (bH lA y).length c'∧Row w w.heap.size A' ((bH lA y).map encStr)∧(bH lA y).length≤c') L w v)::(eqv (.pointer (some ⟨gu,0,none⟩)))::(eqv (.pointer (some ⟨gu,5,none⟩)))::(fun _ _ _=>True)::[])
     (⟨[(0,none)],0,[10]⟩::⟨[(0,none)],0,[10]⟩::⟨[(39,some 1)],0,[10]⟩::⟨[(40,some 2)],0,[10]⟩::⟨[(41,some 3)],0,[10]⟩::⟨[(5,none)],0,[10]⟩::⟨[(43,some 5)],0,[10]⟩::⟨[(42,some 4),(44,some 6)],0,[10]⟩::⟨[(38,some 0)],0,[10]⟩::⟨[(46,some 8)],0,[10]⟩::⟨[(47,some 9),(45,some 7)],0,[]⟩::[])
     (no::no::no::no::no::no::no::no::no::no::no::no::no::no::no::no::no::no::no::no::no::no::no::no::no::no::no::no::no::no::no::no::no::no::no::no::no::no::so 0::so 1::so 2::so 3::so 4::so 5::so 6::so 7::so 8::so 9::[])
     (fun L w'=>CS 10 7 wW (fun w'=>∃wq A' c',Below wW.heap.size wW wq∧Row wq wq.heap.size A' ((bH lA y).map encStr)∧(bH lA y).length≤c'∧w'=wq.setCell ⟨gu,5,none⟩ (.slice A' (bH lA y).length c')) L w') (fun i w w'=>i≠7→i≠10→Below w.heap.size w w') ?mixK12us5_38 ?okK12us5_38 ?tabK12us5_38 ?frK12us5_38 ?inK12us5_38 ?keptK12us5_38 ?startK12us5_38 ?eachK12us5_38 ?finK12us5_38
    case mixK12us5_38|okK12us5_38|tabK12us5_38|frK12us5_38=>kernel_rfl
    case inK12us5_38=>rfl
    case keptK12us5_38=>exact⟨fun _ _ _ _ _ _ _ _ _ _ _ h=>h,fun _ _ _ _ _ _ _ _ _ _ _ h=>h,fun _ _ _ _ _ _ _ _ _ _ _ h=>h,fun _ _ _ _ _ _ _ _ _ _ _ h=>h,fun _ _ _ _ _ _ _ _ _ _ _ h=>h,fun _ _ _ _ _ _ _ _ _ _ _ h=>h,fun _ _ _ _ _ _ _ _ _ _ _ h=>h,fun i hne hrd L w w' v hLi hC hC' hG h=>Till.DU h hne hG (fun hb ⟨A',c',e,h,hc⟩=>⟨A',c',e,(h.below hb).more hb.size,hc⟩),fun _ _ _ _ _ _ _ _ _ _ _ h=>h,fun _ _ _ _ _ _ _ _ _ _ _ h=>h,fun _ _ _ _ _ _ _ _ _ _ _ h=>h,trivial⟩
    case startK12us5_38=>exact⟨fun _=>hgo.out,fun e=>by simp at e⟩
    case eachK12us5_38=>
     repeat' first|exact trivial|refine And.intro ?_ ?_
     ·intro w L f hC hLi hLd hLn ⟨d,_⟩;refine au.live rfl ?_;exact aj (v:=f 0) rfl (hC.go (i:=0) (hLn 10 (by simp)) (by decide) (Below.refl _ _)) (fun _ _=>Below.refl _ _) d
     ·intro w L f hC hLi hLd hLn ⟨d,_⟩;refine au.live rfl ?_;exact aj (v:=f 0) rfl (hC.go (i:=1) (hLn 10 (by simp)) (by decide) (Below.refl _ _)) (fun _ _=>Below.refl _ _) d
     ·intro w L f hC hLi hLd hLn ⟨a,_⟩;change _=_ at a;refine au.live rfl ?_;obtain⟨x1,x2,x3,x4,x5⟩:=hfc.out w (hC.bel (hLn 10 (by simp)));obtain⟨ev,ec,ef⟩:=evs f;refine aj ?_ (hC.go (i:=2) (hLn 10 (by simp)) (by decide) (Below.refl _ _)) (fun _ _=>Below.refl _ _) rfl;go_simp
     ·intro w L f hC hLi hLd hLn ⟨a,_⟩;change _=_ at a;refine au.live rfl ?_;obtain⟨x1,x2,x3,x4,x5⟩:=hfc.out w (hC.bel (hLn 10 (by simp)));obtain⟨ev,ec,ef⟩:=evs f;refine aj ?_ (hC.go (i:=3) (hLn 10 (by simp)) (by decide) (Below.refl _ _)) (fun _ _=>Below.refl _ _) rfl;go_simp
     ·intro w L f hC hLi hLd hLn ⟨a,_⟩;change _=_ at a;refine au.live rfl ?_;obtain⟨x1,x2,x3,x4,x5⟩:=hfc.out w (hC.bel (hLn 10 (by simp)));obtain⟨ev,ec,ef⟩:=evs f;refine aj ?_ (hC.go (i:=4) (hLn 10 (by simp)) (by decide) (Below.refl _ _)) (fun _ _=>Below.refl _ _) rfl;go_simp
     ·intro w L f hC hLi hLd hLn ⟨a,_⟩;change _=_ at a;refine au.live rfl ?_;obtain⟨x1,x2,x3,x4,x5⟩:=hfc.out w (hC.bel (hLn 10 (by simp)));obtain⟨ev,ec,ef⟩:=evs f;refine aj ?_ (hC.go (i:=5) (hLn 10 (by simp)) (by decide) (Below.refl _ _)) (fun _ _=>Below.refl _ _) rfl;go_simp
     ·intro w L f hC hLi hLd hLn ⟨a,_⟩;change _=_ at a;refine au.live rfl ?_;obtain⟨x1,x2,x3,x4,x5⟩:=hfc.out w (hC.bel (hLn 10 (by simp)));obtain⟨ev,ec,ef⟩:=evs f;refine aj ?_ (hC.go (i:=6) (hLn 10 (by simp)) (by decide) (Below.refl _ _)) (fun _ _=>Below.refl _ _) rfl;go_simp
     ·intro w L f hC hLi hLd hLn ⟨a,b,_⟩;change _=_ at a b;refine au.live rfl ?_;obtain⟨ev,ec,ef⟩:=evs f;refine aF (f:=101) (args:= #[.slice XA lA.length kA,.string (ay y)]) (w:=w) (by go_simp) (hadd.out w (hC.bel (hLn 10 (by simp)))) ?_;rintro e w1 ⟨⟨v,he,A',c',ev',hr,hc⟩,hB⟩;exact⟨v,he,hC.go (i:=7) (hLn 10 (by simp)) (by decide) hB,fun h=>absurd rfl h,fun _=>⟨A',c',ev',hr,hc⟩⟩
     ·intro w L f hC hLi hLd hLn ⟨a,_⟩;change _=_ at a;refine au.live rfl ?_;obtain⟨x1,x2,x3,x4,x5⟩:=hfc.out w (hC.bel (hLn 10 (by simp)));obtain⟨ev,ec,ef⟩:=evs f;refine aj ?_ (hC.go (i:=8) (hLn 10 (by simp)) (by decide) (Below.refl _ _)) (fun _ _=>Below.refl _ _) rfl;go_simp
     ·intro w L f hC hLi hLd hLn ⟨a,_⟩;change _=_ at a;refine au.live rfl ?_;obtain⟨x1,x2,x3,x4,x5⟩:=hfc.out w (hC.bel (hLn 10 (by simp)));obtain⟨ev,ec,ef⟩:=evs f;refine aj ?_ (hC.go (i:=9) (hLn 10 (by simp)) (by decide) (Below.refl _ _)) (fun _ _=>Below.refl _ _) rfl;go_simp
     ·intro w L f hC hLi hLd hLn ⟨a,d45,_⟩;change _=_ at a;refine au.live rfl ?_;obtain⟨A',c',e45,hr,hc⟩:=d45 hLi;obtain⟨x1,x2,x3,x4,x5⟩:=hfc.out w (hC.bel hLi);obtain⟨ev,ec,ef⟩:=evs f;refine dK (w':=w.setCell ⟨gu,5,none⟩ (.slice A' (bH lA y).length c')) ?_ (CS.last (hLd 7 (by decide)) ⟨w,A',c',hC.bel hLi,hr,hc,rfl⟩) (fun _ h=>absurd rfl h) trivial;go_simp
    intro x w' hC hV
    obtain⟨-,wq,A',cz,hbq,hrq,hcq,hwq⟩:=hC.2 rfl;have gZ:=hUW.out.Dn hbq (by rw[←hlA'.out];exact hrq) (by rw[←hlA'.out];exact hcq);rw[←hlA'.out,←hwq]at gZ
    have hend:Hid (UsB F gu (B'+((eY h).length+1)) ((eY h).foldl (addN F) c') (hA a' h) (hLc l' h) w0 w'∧Writes [some gu] ws w'):=Za (by
     have g1:=gZ.1;rw[hlA'.out,hy'.out]at g1;unfold hA hLc;rw[d1.out.1,d1.out.2.1,d1.out.2.2]
     exact⟨g1,hWW.out.trans gZ.2⟩)
    simp only[framed];clear hC hV gZ hbq hrq hcq hwq hfc hadd hgo;go_wp2_with fail
    go_meet
    case rel=>exact hend
   ·have d1:Hid (eY h= []∧jd h= [h.y]∧iw h= []):=Za (by unfold eY jd iw;simp[hk])
    have b0:((h.k:Int)==0)=false:=by simp;omega
    have b4:((h.k:Int)==4)=false:=by simp;omega
    have b1:((h.k:Int)==1)=false:=by simp;omega
    have b6:((h.k:Int)==6)=false:=by simp;omega
    have b7:((h.k:Int)==7)=true:=by simp;omega
    have b8:((h.k:Int)==8)=false:=by simp;omega
    clear hk;obtain⟨wW,hwW⟩:∃z,z=ws.drew:=⟨_,rfl⟩
    have hbd:Below ws.heap.size ws wW:=by rw[hwW];exact(Below.refl _ ws).drew
    obtain⟨y,hy⟩:∃z,z=h.y:=⟨_,rfl⟩;obtain⟨lA,hlA⟩:∃z,z=a':=⟨_,rfl⟩;have hUW:=hUs.out.below hbd;have hWW:=Za ((Za (Writes.refl [some gu] ws)).out.trans (Writes.of_below hbd [some gu]));have hSW:=hWW.out.holds qJ.out (by simp;exact hgu);obtain⟨Y1,XA,Y3,j1,kA,j3,hHu,-,⟨rA,eA⟩,-⟩:=hUW.row
    have hfc:Hid (∀wx,Below wW.heap.size wW wx→wx.cell? ⟨gu,5,none⟩=some (.slice XA lA.length kA)∧gu<wx.heap.size∧wx.cell? ⟨gs,2,none⟩=some (.string (ay y))∧gs<wx.heap.size∧wx.frozen? ⟨gu,5,none⟩=false):=Za fun wx hx=>by have g1:=hHu.below hx hHu.lt;have g2:=hSW.below hx hSW.lt;rw[hlA,hy];exact⟨g1.cell 5,g1.lt,g2.cell 2,g2.lt,g1.frozen 5⟩
    have hadd:Hid (∀wx,Below wW.heap.size wW wx→Calls Tryz.prog 101 #[.slice XA lA.length kA,.string (ay y)] wx (Fj wx (bH lA y))):=Za fun wx hx=>by rw[hlA];exact add_any wx XA a'.length kA a' y rfl (by have h1:=hUW.lc;have h2:=he.out.1;have h3:=hB'.out;simp only[uN,hN,hlR]at h2;have h4:=d1.out.1;simp[h4]at h2;omega) eA ((rA.below hx).more hx.size)
    have hgo:Hid (Below wW.heap.size wW ws.drew):=Za (by rw[←hwW];exact Below.refl _ _);replace hUW:=Za hUW;have hy':=Za hy;have hlA':=Za hlA;clear hwW hbd hSW hHu rA eA hy hlA;go_wp2_with fail;refine aC ((eqv (.pointer (some ⟨gu,0,none⟩)))::(eqv (.pointer (some ⟨gu,0,none⟩)))::(eqv (.pointer (some ⟨gu,0,none⟩)))::(eqv (.pointer (some ⟨gu,5,none⟩)))::(eqv (.slice XA lA.length kA))::(eqv (.pointer (some ⟨gs,2,none⟩)))::(eqv (.string (ay y)))::(fun L w v=>Till 10 (fun w v=>∃A' c',v= .slice A' (bH lA y).length c'∧Row w w.heap.size A' ((bH lA y).map encStr)∧(bH lA y).length≤c') L w v)::(eqv (.pointer (some ⟨gu,0,none⟩)))::(eqv (.pointer (some ⟨gu,5,none⟩)))::(fun _ _ _=>True)::[])
     (⟨[(0,none)],0,[10]⟩::⟨[(0,none)],0,[10]⟩::⟨[(51,some 1)],0,[10]⟩::⟨[(52,some 2)],0,[10]⟩::⟨[(53,some 3)],0,[10]⟩::⟨[(5,none)],0,[10]⟩::⟨[(55,some 5)],0,[10]⟩::⟨[(54,some 4),(56,some 6)],0,[10]⟩::⟨[(50,some 0)],0,[10]⟩::⟨[(58,some 8)],0,[10]⟩::⟨[(59,some 9),(57,some 7)],0,[]⟩::[])
     (no::no::no::no::no::no::no::no::no::no::no::no::no::no::no::no::no::no::no::no::no::no::no::no::no::no::no::no::no::no::no::no::no::no::no::no::no::no::no::no::no::no::no::no::no::no::no::no::no::no::so 0::so 1::so 2::so 3::so 4::so 5::so 6::so 7::so 8::so 9::[])
     (fun L w'=>CS 10 7 wW (fun w'=>∃wq A' c',Below wW.heap.size wW wq∧Row wq wq.heap.size A' ((bH lA y).map encStr)∧(bH lA y).length≤c'∧w'=wq.setCell ⟨gu,5,none⟩ (.slice A' (bH lA y).length c')) L w') (fun i w w'=>i≠7→i≠10→Below w.heap.size w w') ?mixK14us5_50 ?okK14us5_50 ?tabK14us5_50 ?frK14us5_50 ?inK14us5_50 ?keptK14us5_50 ?startK14us5_50 ?eachK14us5_50 ?finK14us5_50
    case mixK14us5_50|okK14us5_50|tabK14us5_50|frK14us5_50=>kernel_rfl
    case inK14us5_50=>rfl
    case keptK14us5_50=>exact⟨fun _ _ _ _ _ _ _ _ _ _ _ h=>h,fun _ _ _ _ _ _ _ _ _ _ _ h=>h,fun _ _ _ _ _ _ _ _ _ _ _ h=>h,fun _ _ _ _ _ _ _ _ _ _ _ h=>h,fun _ _ _ _ _ _ _ _ _ _ _ h=>h,fun _ _ _ _ _ _ _ _ _ _ _ h=>h,fun _ _ _ _ _ _ _ _ _ _ _ h=>h,fun i hne hrd L w w' v hLi hC hC' hG h=>Till.DU h hne hG (fun hb ⟨A',c',e,h,hc⟩=>⟨A',c',e,(h.below hb).more hb.size,hc⟩),fun _ _ _ _ _ _ _ _ _ _ _ h=>h,fun _ _ _ _ _ _ _ _ _ _ _ h=>h,fun _ _ _ _ _ _ _ _ _ _ _ h=>h,trivial⟩
    case startK14us5_50=>exact⟨fun _=>hgo.out,fun e=>by simp at e⟩
    case eachK14us5_50=>
     repeat' first|exact trivial|refine And.intro ?_ ?_
     ·intro w L f hC hLi hLd hLn ⟨d,_⟩;refine au.live rfl ?_;exact aj (v:=f 0) rfl (hC.go (i:=0) (hLn 10 (by simp)) (by decide) (Below.refl _ _)) (fun _ _=>Below.refl _ _) d
     ·intro w L f hC hLi hLd hLn ⟨d,_⟩;refine au.live rfl ?_;exact aj (v:=f 0) rfl (hC.go (i:=1) (hLn 10 (by simp)) (by decide) (Below.refl _ _)) (fun _ _=>Below.refl _ _) d
     ·intro w L f hC hLi hLd hLn ⟨a,_⟩;change _=_ at a;refine au.live rfl ?_;obtain⟨x1,x2,x3,x4,x5⟩:=hfc.out w (hC.bel (hLn 10 (by simp)));obtain⟨ev,ec,ef⟩:=evs f;refine aj ?_ (hC.go (i:=2) (hLn 10 (by simp)) (by decide) (Below.refl _ _)) (fun _ _=>Below.refl _ _) rfl;go_simp
     ·intro w L f hC hLi hLd hLn ⟨a,_⟩;change _=_ at a;refine au.live rfl ?_;obtain⟨x1,x2,x3,x4,x5⟩:=hfc.out w (hC.bel (hLn 10 (by simp)));obtain⟨ev,ec,ef⟩:=evs f;refine aj ?_ (hC.go (i:=3) (hLn 10 (by simp)) (by decide) (Below.refl _ _)) (fun _ _=>Below.refl _ _) rfl;go_simp
     ·intro w L f hC hLi hLd hLn ⟨a,_⟩;change _=_ at a;refine au.live rfl ?_;obtain⟨x1,x2,x3,x4,x5⟩:=hfc.out w (hC.bel (hLn 10 (by simp)));obtain⟨ev,ec,ef⟩:=evs f;refine aj ?_ (hC.go (i:=4) (hLn 10 (by simp)) (by decide) (Below.refl _ _)) (fun _ _=>Below.refl _ _) rfl;go_simp
     ·intro w L f hC hLi hLd hLn ⟨a,_⟩;change _=_ at a;refine au.live rfl ?_;obtain⟨x1,x2,x3,x4,x5⟩:=hfc.out w (hC.bel (hLn 10 (by simp)));obtain⟨ev,ec,ef⟩:=evs f;refine aj ?_ (hC.go (i:=5) (hLn 10 (by simp)) (by decide) (Below.refl _ _)) (fun _ _=>Below.refl _ _) rfl;go_simp
     ·intro w L f hC hLi hLd hLn ⟨a,_⟩;change _=_ at a;refine au.live rfl ?_;obtain⟨x1,x2,x3,x4,x5⟩:=hfc.out w (hC.bel (hLn 10 (by simp)));obtain⟨ev,ec,ef⟩:=evs f;refine aj ?_ (hC.go (i:=6) (hLn 10 (by simp)) (by decide) (Below.refl _ _)) (fun _ _=>Below.refl _ _) rfl;go_simp
     ·intro w L f hC hLi hLd hLn ⟨a,b,_⟩;change _=_ at a b;refine au.live rfl ?_;obtain⟨ev,ec,ef⟩:=evs f;refine aF (f:=101) (args:= #[.slice XA lA.length kA,.string (ay y)]) (w:=w) (by go_simp) (hadd.out w (hC.bel (hLn 10 (by simp)))) ?_;rintro e w1 ⟨⟨v,he,A',c',ev',hr,hc⟩,hB⟩;exact⟨v,he,hC.go (i:=7) (hLn 10 (by simp)) (by decide) hB,fun h=>absurd rfl h,fun _=>⟨A',c',ev',hr,hc⟩⟩
     ·intro w L f hC hLi hLd hLn ⟨a,_⟩;change _=_ at a;refine au.live rfl ?_;obtain⟨x1,x2,x3,x4,x5⟩:=hfc.out w (hC.bel (hLn 10 (by simp)));obtain⟨ev,ec,ef⟩:=evs f;refine aj ?_ (hC.go (i:=8) (hLn 10 (by simp)) (by decide) (Below.refl _ _)) (fun _ _=>Below.refl _ _) rfl;go_simp
     ·intro w L f hC hLi hLd hLn ⟨a,_⟩;change _=_ at a;refine au.live rfl ?_;obtain⟨x1,x2,x3,x4,x5⟩:=hfc.out w (hC.bel (hLn 10 (by simp)));obtain⟨ev,ec,ef⟩:=evs f;refine aj ?_ (hC.go (i:=9) (hLn 10 (by simp)) (by decide) (Below.refl _ _)) (fun _ _=>Below.refl _ _) rfl;go_simp
     ·intro w L f hC hLi hLd hLn ⟨a,d57,_⟩;change _=_ at a;refine au.live rfl ?_;obtain⟨A',c',e45,hr,hc⟩:=d57 hLi;obtain⟨x1,x2,x3,x4,x5⟩:=hfc.out w (hC.bel hLi);obtain⟨ev,ec,ef⟩:=evs f;refine dK (w':=w.setCell ⟨gu,5,none⟩ (.slice A' (bH lA y).length c')) ?_ (CS.last (hLd 7 (by decide)) ⟨w,A',c',hC.bel hLi,hr,hc,rfl⟩) (fun _ h=>absurd rfl h) trivial;go_simp
    intro x w' hC hV
    obtain⟨-,wq,A',cz,hbq,hrq,hcq,hwq⟩:=hC.2 rfl;have gZ:=hUW.out.Dn hbq (by rw[←hlA'.out];exact hrq) (by rw[←hlA'.out];exact hcq);rw[←hlA'.out,←hwq]at gZ
    have hend:Hid (UsB F gu (B'+((eY h).length+1)) ((eY h).foldl (addN F) c') (hA a' h) (hLc l' h) w0 w'∧Writes [some gu] ws w'):=Za (by
     have g1:=gZ.1;rw[hlA'.out,hy'.out]at g1;unfold hA hLc;rw[d1.out.1,d1.out.2.1,d1.out.2.2]
     exact⟨g1,hWW.out.trans gZ.2⟩)
    simp only[framed];clear hC hV gZ hbq hrq hcq hwq hfc hadd hgo;go_wp2_with fail
    go_meet
    case rel=>exact hend
   ·have d1:Hid (eY h=h.x::agR h.args∧jd h= []∧iw h= [h.y]):=Za (by unfold eY jd iw;simp[hk])
    have b0:((h.k:Int)==0)=false:=by simp;omega
    have b4:((h.k:Int)==4)=false:=by simp;omega
    have b1:((h.k:Int)==1)=false:=by simp;omega
    have b6:((h.k:Int)==6)=false:=by simp;omega
    have b7:((h.k:Int)==7)=false:=by simp;omega
    have b8:((h.k:Int)==8)=true:=by simp;omega
    have s1:ws.cell? ⟨gs,1,none⟩=some (.string (ay h.x)):=qJ.out.cell 1;clear hk;go_wp2_with fail;refine(jl F gu B' c' a' l' w0 ws hUs.out (by have:=he.out.1;have:=hB'.out;omega) h.x).mono ?_;rintro e5 w5 ⟨rfl,hU5,hW5⟩;replace hU5:=Za hU5;replace hW5:=Za hW5;obtain⟨wW,hwW⟩:∃z,z=w5.drew:=⟨_,rfl⟩
    have hbd:Below w5.heap.size w5 wW:=by rw[hwW];exact(Below.refl _ w5).drew
    obtain⟨y,hy⟩:∃z,z=h.y:=⟨_,rfl⟩;obtain⟨lA,hlA⟩:∃z,z=l':=⟨_,rfl⟩;have hUW:=hU5.out.below hbd;have hWW:=Za (hW5.out.trans (Writes.of_below hbd [some gu]));have hSW:=hWW.out.holds qJ.out (by simp;exact hgu);obtain⟨Y1,Y2,XA,j1,j2,kA,hHu,-,-,rA,eA⟩:=hUW.row
    have hfc:Hid (∀wx,Below wW.heap.size wW wx→wx.cell? ⟨gu,6,none⟩=some (.slice XA lA.length kA)∧gu<wx.heap.size∧wx.cell? ⟨gs,2,none⟩=some (.string (ay y))∧gs<wx.heap.size∧wx.frozen? ⟨gu,6,none⟩=false):=Za fun wx hx=>by have g1:=hHu.below hx hHu.lt;have g2:=hSW.below hx hSW.lt;rw[hlA,hy];exact⟨g1.cell 6,g1.lt,g2.cell 2,g2.lt,g1.frozen 6⟩
    have hadd:Hid (∀wx,Below wW.heap.size wW wx→Calls Tryz.prog 101 #[.slice XA lA.length kA,.string (ay y)] wx (Fj wx (bH lA y))):=Za fun wx hx=>by rw[hlA];exact add_any wx XA l'.length kA l' y rfl (by have h1:=hUW.lc;have h2:=he.out.1;have h3:=hB'.out;simp only[uN,hN,hlR]at h2;have h4:=d1.out.1;simp[h4]at h2;omega) eA ((rA.below hx).more hx.size)
    have hgo:Hid (Below wW.heap.size wW w5.drew):=Za (by rw[←hwW];exact Below.refl _ _);replace hUW:=Za hUW;have hy':=Za hy;have hlA':=Za hlA;clear hwW hbd hSW hHu rA eA hy hlA;go_wp2_with fail;refine aC ((eqv (.pointer (some ⟨gu,0,none⟩)))::(eqv (.pointer (some ⟨gu,0,none⟩)))::(eqv (.pointer (some ⟨gu,0,none⟩)))::(eqv (.pointer (some ⟨gu,6,none⟩)))::(eqv (.slice XA lA.length kA))::(eqv (.pointer (some ⟨gs,2,none⟩)))::(eqv (.string (ay y)))::(fun L w v=>Till 10 (fun w v=>∃A' c',v= .slice A' (bH lA y).length c'∧Row w w.heap.size A' ((bH lA y).map encStr)∧(bH lA y).length≤c') L w v)::(eqv (.pointer (some ⟨gu,0,none⟩)))::(eqv (.pointer (some ⟨gu,6,none⟩)))::(fun _ _ _=>True)::[])
     (⟨[(0,none)],0,[10]⟩::⟨[(0,none)],0,[10]⟩::⟨[(67,some 1)],0,[10]⟩::⟨[(68,some 2)],0,[10]⟩::⟨[(69,some 3)],0,[10]⟩::⟨[(5,none)],0,[10]⟩::⟨[(71,some 5)],0,[10]⟩::⟨[(70,some 4),(72,some 6)],0,[10]⟩::⟨[(66,some 0)],0,[10]⟩::⟨[(74,some 8)],0,[10]⟩::⟨[(75,some 9),(73,some 7)],0,[]⟩::[])
     (no::no::no::no::no::no::no::no::no::no::no::no::no::no::no::no::no::no::no::no::no::no::no::no::no::no::no::no::no::no::no::no::no::no::no::no::no::no::no::no::no::no::no::no::no::no::no::no::no::no::no::no::no::no::no::no::no::no::no::no::no::no::no::no::no::no::so 0::so 1::so 2::so 3::so 4::so 5::so 6::so 7::so 8::so 9::[])
     (fun L w'=>CS 10 7 wW (fun w'=>∃wq A' c',Below wW.heap.size wW wq∧Row wq wq.heap.size A' ((bH lA y).map encStr)∧(bH lA y).length≤c'∧w'=wq.setCell ⟨gu,6,none⟩ (.slice A' (bH lA y).length c')) L w') (fun i w w'=>i≠7→i≠10→Below w.heap.size w w') ?mixK17us6_66 ?okK17us6_66 ?tabK17us6_66 ?frK17us6_66 ?inK17us6_66 ?keptK17us6_66 ?startK17us6_66 ?eachK17us6_66 ?finK17us6_66
    case mixK17us6_66|okK17us6_66|tabK17us6_66|frK17us6_66=>kernel_rfl
    case inK17us6_66=>rfl
    case keptK17us6_66=>exact⟨fun _ _ _ _ _ _ _ _ _ _ _ h=>h,fun _ _ _ _ _ _ _ _ _ _ _ h=>h,fun _ _ _ _ _ _ _ _ _ _ _ h=>h,fun _ _ _ _ _ _ _ _ _ _ _ h=>h,fun _ _ _ _ _ _ _ _ _ _ _ h=>h,fun _ _ _ _ _ _ _ _ _ _ _ h=>h,fun _ _ _ _ _ _ _ _ _ _ _ h=>h,fun i hne hrd L w w' v hLi hC hC' hG h=>Till.DU h hne hG (fun hb ⟨A',c',e,h,hc⟩=>⟨A',c',e,(h.below hb).more hb.size,hc⟩),fun _ _ _ _ _ _ _ _ _ _ _ h=>h,fun _ _ _ _ _ _ _ _ _ _ _ h=>h,fun _ _ _ _ _ _ _ _ _ _ _ h=>h,trivial⟩
    case startK17us6_66=>exact⟨fun _=>hgo.out,fun e=>by simp at e⟩
    case eachK17us6_66=>
     repeat' first|exact trivial|refine And.intro ?_ ?_
     ·intro w L f hC hLi hLd hLn ⟨d,_⟩;refine au.live rfl ?_;exact aj (v:=f 0) rfl (hC.go (i:=0) (hLn 10 (by simp)) (by decide) (Below.refl _ _)) (fun _ _=>Below.refl _ _) d
     ·intro w L f hC hLi hLd hLn ⟨d,_⟩;refine au.live rfl ?_;exact aj (v:=f 0) rfl (hC.go (i:=1) (hLn 10 (by simp)) (by decide) (Below.refl _ _)) (fun _ _=>Below.refl _ _) d
     ·intro w L f hC hLi hLd hLn ⟨a,_⟩;change _=_ at a;refine au.live rfl ?_;obtain⟨x1,x2,x3,x4,x5⟩:=hfc.out w (hC.bel (hLn 10 (by simp)));obtain⟨ev,ec,ef⟩:=evs f;refine aj ?_ (hC.go (i:=2) (hLn 10 (by simp)) (by decide) (Below.refl _ _)) (fun _ _=>Below.refl _ _) rfl;go_simp
     ·intro w L f hC hLi hLd hLn ⟨a,_⟩;change _=_ at a;refine au.live rfl ?_;obtain⟨x1,x2,x3,x4,x5⟩:=hfc.out w (hC.bel (hLn 10 (by simp)));obtain⟨ev,ec,ef⟩:=evs f;refine aj ?_ (hC.go (i:=3) (hLn 10 (by simp)) (by decide) (Below.refl _ _)) (fun _ _=>Below.refl _ _) rfl;go_simp
     ·intro w L f hC hLi hLd hLn ⟨a,_⟩;change _=_ at a;refine au.live rfl ?_;obtain⟨x1,x2,x3,x4,x5⟩:=hfc.out w (hC.bel (hLn 10 (by simp)));obtain⟨ev,ec,ef⟩:=evs f;refine aj ?_ (hC.go (i:=4) (hLn 10 (by simp)) (by decide) (Below.refl _ _)) (fun _ _=>Below.refl _ _) rfl;go_simp
     ·intro w L f hC hLi hLd hLn ⟨a,_⟩;change _=_ at a;refine au.live rfl ?_;obtain⟨x1,x2,x3,x4,x5⟩:=hfc.out w (hC.bel (hLn 10 (by simp)));obtain⟨ev,ec,ef⟩:=evs f;refine aj ?_ (hC.go (i:=5) (hLn 10 (by simp)) (by decide) (Below.refl _ _)) (fun _ _=>Below.refl _ _) rfl;go_simp
     ·intro w L f hC hLi hLd hLn ⟨a,_⟩;change _=_ at a;refine au.live rfl ?_;obtain⟨x1,x2,x3,x4,x5⟩:=hfc.out w (hC.bel (hLn 10 (by simp)));obtain⟨ev,ec,ef⟩:=evs f;refine aj ?_ (hC.go (i:=6) (hLn 10 (by simp)) (by decide) (Below.refl _ _)) (fun _ _=>Below.refl _ _) rfl;go_simp
     ·intro w L f hC hLi hLd hLn ⟨a,b,_⟩;change _=_ at a b;refine au.live rfl ?_;obtain⟨ev,ec,ef⟩:=evs f;refine aF (f:=101) (args:= #[.slice XA lA.length kA,.string (ay y)]) (w:=w) (by go_simp) (hadd.out w (hC.bel (hLn 10 (by simp)))) ?_;rintro e w1 ⟨⟨v,he,A',c',ev',hr,hc⟩,hB⟩;exact⟨v,he,hC.go (i:=7) (hLn 10 (by simp)) (by decide) hB,fun h=>absurd rfl h,fun _=>⟨A',c',ev',hr,hc⟩⟩
     ·intro w L f hC hLi hLd hLn ⟨a,_⟩;change _=_ at a;refine au.live rfl ?_;obtain⟨x1,x2,x3,x4,x5⟩:=hfc.out w (hC.bel (hLn 10 (by simp)));obtain⟨ev,ec,ef⟩:=evs f;refine aj ?_ (hC.go (i:=8) (hLn 10 (by simp)) (by decide) (Below.refl _ _)) (fun _ _=>Below.refl _ _) rfl;go_simp
     ·intro w L f hC hLi hLd hLn ⟨a,_⟩;change _=_ at a;refine au.live rfl ?_;obtain⟨x1,x2,x3,x4,x5⟩:=hfc.out w (hC.bel (hLn 10 (by simp)));obtain⟨ev,ec,ef⟩:=evs f;refine aj ?_ (hC.go (i:=9) (hLn 10 (by simp)) (by decide) (Below.refl _ _)) (fun _ _=>Below.refl _ _) rfl;go_simp
     ·intro w L f hC hLi hLd hLn ⟨a,d73,_⟩;change _=_ at a;refine au.live rfl ?_;obtain⟨A',c',e45,hr,hc⟩:=d73 hLi;obtain⟨x1,x2,x3,x4,x5⟩:=hfc.out w (hC.bel hLi);obtain⟨ev,ec,ef⟩:=evs f;refine dK (w':=w.setCell ⟨gu,6,none⟩ (.slice A' (bH lA y).length c')) ?_ (CS.last (hLd 7 (by decide)) ⟨w,A',c',hC.bel hLi,hr,hc,rfl⟩) (fun _ h=>absurd rfl h) trivial;go_simp
    intro x w' hC hV
    obtain⟨-,wq,A',cz,hbq,hrq,hcq,hwq⟩:=hC.2 rfl;have gZ:=hUW.out.putL hbq (by rw[←hlA'.out];exact hrq) (by rw[←hlA'.out];exact hcq);rw[←hlA'.out,←hwq]at gZ
    have hU6:Hid (UsB F gu (B'+2) (addN F c' h.x) a' (bH l' h.y) w0 w'):=Za (by
     have g1:=gZ.1;rw[hlA'.out,hy'.out]at g1
     exact g1)
    have hW6:=Za (hWW.out.trans gZ.2);obtain⟨Ag0,ag1,vs,eag,hag1,hag2,hrow,hcells⟩:=hht.out.1.a;injection eag with eg1 eg2 eg3;subst eg1;have hrow':=Za hrow;have hcells':=Za hcells
    have hna5:na≤100000:=by rw[hna'.out];exact hag1
    simp only[framed];clear hC hV gZ hbq hrq hcq hwq hfc hadd hgo hrow hcells eg2 eg3 hag1 hag2 s0 sl s1;go_wp2_with fail;have hag0:Hid (UsB F gu (B'+2+(agR (h.args.take 0)).length) ((agR (h.args.take 0)).foldl (addN F) (addN F c' h.x)) a' (bH l' h.y) w0 w'):=Za hU6.out
    have hbud:Hid (∀j,(agR (h.args.take j)).length≤(agR h.args).length):=Za fun j=>by
     conv=>rhs;rw[←List.take_append_drop j h.args]
     unfold agR;rw[List.flatMap_append,List.length_append];omega
    have hbB:Hid (B'+2+(agR h.args).length≤100000):=Za (by have h1:=he.out.1;have h2:=hB'.out;simp only[uN,hN,hlR]at h1;rw[d1.out.1]at h1;simp at h1;omega);clear hU6;go_loopw [6] (fun i wx=>∃j:Nat,j≤na∧i= .int .i64 j∧Hid (UsB F gu (B'+2+(agR (h.args.take j)).length) ((agR (h.args.take j)).foldl (addN F) (addN F c' h.x)) a' (bH l' h.y) w0 wx)∧Hid (Writes [some gu] ws wx)) (fun i _=>na-(intOf i).toNat)
    case atStart=>exact⟨0,by omega,rfl,hag0,hW6⟩
    clear hag0 hW6;obtain⟨j,hj,rfl,hUj,hWj⟩:=hrel;rename World=>wx;have hsx:=hWj.out.holds qJ.out (by simp;exact hgu);have s6:wx.cell? ⟨gs,6,none⟩=some (.slice Aa na ca):=hsx.cell 6;have sl:=hsx.lt;by_cases hjn:j<na
    ·have hjl:j<h.args.length:=by rw[←hna'.out];exact hjn
     obtain⟨ve,-,-,hv2,hve,-⟩:=hcells'.out.at_ hjl;obtain⟨b3,off3,rfl,-,hrc⟩:=hrow'.out (by rintro rfl;simp at hv2)
     have hcv:wx.cell? ⟨b3,off3+j*3+2,none⟩=some ve:=by have g0:=hrc _ _ hv2;rw[←Nat.add_assoc]at g0;exact(hUj.out.bl.cell (p:=⟨b3,off3+j*3+2,none⟩) (lt_of_cell g0)).trans g0
     have hbl:=lt_of_cell hcv;have htk:Hid (agR (h.args.take (j+1))=agR (h.args.take j)++exL h.args[j].e):=Za (by unfold agR;rw[List.take_succ_eq_append_getElem hjl,List.flatMap_append];simp);have cE:=Za (iJ F gu a' (bH l' h.y) w0 h.args[j].e wx _ _ ve hve hUj.out (by have g1:=hbud.out (j+1);rw[htk.out,List.length_append]at g1;have g2:=hbB.out;omega));clear hrc hv2 hve hsx;go_wp2_with fail;refine cE.out.mono ?_;rintro e7 w7 ⟨rfl,hU7,hW7⟩;have hU8:Hid (UsB F gu (B'+2+(agR (h.args.take (j+1))).length) ((agR (h.args.take (j+1))).foldl (addN F) (addN F c' h.x)) a' (bH l' h.y) w0 w7):=Za (by rw[htk.out,List.length_append,List.foldl_append];exact hU7.eq (by omega) rfl);have hW8:=Za (hWj.out.trans hW7);clear hU7 hW7 hcv hbl s6 sl;go_wp2_with fail;exact⟨⟨j+1,by omega,by simp,hU8,hW8⟩,by simp[intOf];omega⟩
    ·obtain rfl:j=na:=by omega
     have hend:Hid (UsB F gu (B'+((eY h).length+1)) ((eY h).foldl (addN F) c') (hA a' h) (hLc l' h) w0 wx∧Writes [some gu] ws wx):=Za (by
      have g1:=hUj.out;rw[hna'.out,List.take_length]at g1;unfold hA hLc;rw[d1.out.1,d1.out.2.1,d1.out.2.2]
      exact⟨g1.eq (by simp;omega) rfl,hWj.out⟩)
     clear hUj hWj hsx;go_wp2_with fail
     go_meet
     case rel=>exact hend
   ·have d1:Hid (eY h= []∧jd h= []∧iw h= []):=Za (by unfold eY jd iw;refine⟨?_,?_,?_⟩<;>(repeat' split)<;>first|rfl|omega)
    have b0:((h.k:Int)==0)=false:=by simp;omega
    have b4:((h.k:Int)==4)=false:=by simp;omega
    have b1:((h.k:Int)==1)=false:=by simp;omega
    have b6:((h.k:Int)==6)=false:=by simp;omega
    have b7:((h.k:Int)==7)=false:=by simp;omega
    have b8:((h.k:Int)==8)=false:=by simp;omega
    have hend:Hid (UsB F gu (B'+((eY h).length+1)) ((eY h).foldl (addN F) c') (hA a' h) (hLc l' h) w0 ws∧Writes [some gu] ws ws):=Za (by unfold hA hLc;rw[d1.out.1,d1.out.2.1,d1.out.2.2];exact⟨hUs.out.more (by simp),Writes.refl _ _⟩);clear hk d1;go_wp2_with fail
    go_meet
    case rel=>exact hend
  case' rest=>
   clear s0 sl;rename World=>wc;obtain⟨hU1,hW1⟩:=hcut.out
   have hfs:Hid (∀wx,Writes [some gu] ws wx→wx.cell? ⟨gs,3,none⟩=some (.pointer pe)∧wx.cell? ⟨gs,4,none⟩=some (.pointer pf)∧wx.cell? ⟨gs,5,none⟩=some (.pointer pc)∧wx.cell? ⟨gs,7,none⟩=some (.slice At nt ct)∧wx.cell? ⟨gs,8,none⟩=some (.slice Al nl cl)∧gs<wx.heap.size):=Za fun wx hx=>by have h:=hx.holds qJ.out (by simp;exact hgu);exact⟨h.cell 3,h.cell 4,h.cell 5,h.cell 7,h.cell 8,h.lt⟩
   have hbd:B'+((eY h).length+1)+(exL h.e).length+(exL h.f).length+(cnL h.c).length=B'+hN h:=by unfold hN hlR;simp;omega
   have hbn:B'+hN h+uN t+uN e+uN r≤100000:=by have h1:=he.out.1;have h2:=hB'.out;simp only[uN]at h1;omega
   have hcd:(cnL h.c).foldl (addN F) ((exL h.f).foldl (addN F) ((exL h.e).foldl (addN F) ((eY h).foldl (addN F) c')))=hC F c' h:=by unfold hC hlR;rw[List.foldl_append,List.foldl_append,List.foldl_append]
   have cE:=Za (fun(w:World) (B:Nat) (c a l:List S)=>iJ F gu a l w0 h.e w B c (.pointer pe) hht.out.1.e);have cF:=Za (fun(w:World) (B:Nat) (c a l:List S)=>iJ F gu a l w0 h.f w B c (.pointer pf) hht.out.1.f);have cC:=Za (fun(w:World) (B:Nat) (c a l:List S)=>oI F gu a l w0 h.c w B c (.pointer pc) hht.out.1.c);have cT:=Za (fun(w:World) (B:Nat) (c a l:List S)=>hih.out t hdt.out.1 w B c a l (.slice At nt ct) hht.out.2.1);have cL:=Za (fun(w:World) (B:Nat) (c a l:List S)=>hih.out e hdt.out.2.1 w B c a l (.slice Al nl cl) hht.out.2.2);obtain⟨s3,s4,s5,s7,s8,sl⟩:=hfs.out wc hW1;replace hU1:=Za hU1;replace hW1:=Za hW1;replace hbd:=Za hbd;replace hbn:=Za hbn;replace hcd:=Za hcd;clear hcut;go_wp2_with fail;refine(cE.out wc _ _ _ _ hU1.out (by have h1:=hbd.out;have h2:=hbn.out;omega)).mono ?_;rintro e5 w5 ⟨rfl,hU5,hW5⟩;replace hU5:=Za hU5;have hV5:=Za (hW1.out.trans hW5);clear s3 s4 s5 s7 s8 sl hW5;obtain⟨s3,s4,s5,s7,s8,sl⟩:=hfs.out w5 hV5.out;go_wp2_with fail
   refine(cF.out w5 _ _ _ _ hU5.out (by have h1:=hbd.out;have h2:=hbn.out;omega)).mono ?_;rintro e6 w6 ⟨rfl,hU6,hW6⟩;replace hU6:=Za hU6;have hV6:=Za (hV5.out.trans hW6);clear s3 s4 s5 s7 s8 sl hW6;obtain⟨s3,s4,s5,s7,s8,sl⟩:=hfs.out w6 hV6.out;go_wp2_with fail;refine(cC.out w6 _ _ _ _ hU6.out (by have h1:=hbd.out;have h2:=hbn.out;omega)).mono ?_;rintro e7 w7 ⟨rfl,hU7,hW7⟩;have hU7':=Za (hU7.eq hbd.out hcd.out);have hV7:=Za (hV6.out.trans hW7);clear s3 s4 s5 s7 s8 sl hW7 hU7;obtain⟨s3,s4,s5,s7,s8,sl⟩:=hfs.out w7 hV7.out;go_wp2_with fail;refine(cT.out w7 _ _ _ _ hU7'.out (by have h2:=hbn.out;omega)).mono ?_;rintro e8 w8 ⟨rfl,hU8,hW8⟩;replace hU8:=Za hU8;have hV8:=Za (hV7.out.trans hW8);clear s3 s4 s5 s7 s8 sl hW8;obtain⟨s3,s4,s5,s7,s8,sl⟩:=hfs.out w8 hV8.out;go_wp2_with fail;refine(cL.out w8 _ _ _ _ hU8.out (by have h2:=hbn.out;omega)).mono ?_;rintro e9 w9 ⟨rfl,hU9,hW9⟩;replace hU9:=Za hU9;have hV9:=Za (hWs.out.trans (hV8.out.trans hW9));clear s3 s4 s5 s7 s8 sl hW9
   have he9:Hid (BN=B'+hN h+uN t+uN e+uN r∧C=uC F r (uC F e (uC F t (hC F c' h)))∧AA=uA r (uA e (uA t (hA a' h)))∧LL=uL r (uL e (uL t (hLc l' h)))):=Za (by
    obtain⟨e1,e2,e3,e4⟩:=he.out
    exact⟨by rw[e1];simp only[uN];omega,e2,e3,e4⟩)
   go_wp2_with fail;exact⟨⟨k+1,r,us',_,_,_,_,by omega,by simp,hrest',hU9,he9,hrl,Za hdt.out.2.2,hV9⟩,by simp[intOf];omega⟩
end Go.Proofs.YtpndglghpojjkaaGreat
namespace Go.Proofs.YtpndglghpojjkaaGreat
def knT:List UInt8:= [102,110,32,102,40,42,112,41,32,123,32,112,116,114,32,113,59,32,113,32,61,32,112,59,32,99,32,61,32,103,40,49,41,59,32,125]
def knF:Fnc:=(funcF knT).1
theorem EW:funcF knT=(knF,0,0):=by kernel_rfl
def knR:Fnc:=(bK knF [102]).1
theorem FP:bK knF [102]=(knR,0,0):=by kernel_rfl
theorem FQ:bK knF [103]=(Fnc.none,-1,62):=by kernel_rfl
theorem FT:knR.body.len=2:=by kernel_rfl
def pI:Sl→Hd
 | .nil=>hd0 0
 | .cons h _ _ _=>h
theorem EU:(pI knR.body).k=2∧(pI knR.body).y= [112]:=⟨by kernel_rfl,by kernel_rfl⟩
theorem EX:jI (fun h=>hsC h+1) knR.body≤500000:=of_decide_eq_true (by kernel_rfl)
theorem DF:jI (fun _=>1) knR.body≤500000:=of_decide_eq_true (by kernel_rfl)
theorem uU (x:S):canon [x]= [x]:=su (List.pairwise_singleton _ _) fun _=>Iff.rfl
theorem DI:canon (each (hdP (cZ (knR.ps++knR.ls))) knR.body)= [[99]]:=by
 rw[show each (hdP (cZ (knR.ps++knR.ls))) knR.body= [[99]]by kernel_rfl];exact uU _
theorem DJ:canon (each (globs (cZ (knR.ps++knR.ls)) iw) knR.body)= [[103]]:=by
 rw[show each (globs (cZ (knR.ps++knR.ls)) iw) knR.body= [[103]]by kernel_rfl];exact uU _
theorem DC:kC [[97],[97]]=true:=by kernel_rfl
end Go.Proofs.YtpndglghpojjkaaGreat
namespace Go.Proofs.YtpndglghpojjkaaGreat
open Go.RowKit Go.Deep
theorem CU (w:World) (A1 A2:Option Addr) (n1 n2 c1 c2:Nat) (l l':List S) (h1:l.length=n1) (h2:l'.length=n2) (hm:n1≤100000) (hm2:n2≤100000) (r1:Row w w.heap.size A1 (l.map encStr)) (r2:Row w w.heap.size A2 (l'.map encStr)):
  Calls Tryz.prog 16 #[.slice A1 n1 c1,.slice A2 n2 c2] w fun e w'=>e= .returned (.bool (decide (l=l')))∧Below w.heap.size w w':=by
 have h1':=Za h1;have h2':=Za h2;have r1':=Za r1;have r2':=Za r2;clear r1 r2 h1 h2;by_cases hne:n1=n2
 case neg=>
  have hd:=Za (show decide (l=l')=false by
   simp only[decide_eq_false_iff_not];rintro rfl
   exact hne (by rw[←h1'.out,←h2'.out]))
  have hnn:((n1:Int)==n2)=false:=by simp;omega
  go_enter Tryz.func16,Tryz.ntmps16;go_wp2_with fail;go_ret;exact⟨by rw[hd.out];rfl,Below.refl _ _⟩
 subst hne;go_enter Tryz.func16,Tryz.ntmps16;go_wp2_with fail;go_loopw [5] (fun i wr=>∃k:Nat,k≤n1∧i= .int .i64 k∧Below w.heap.size w wr∧l.take k=l'.take k) (fun i _=>n1-(intOf i).toNat)
 case atStart=>exact⟨0,Nat.zero_le _,rfl,Below.refl _ _,rfl⟩
 obtain⟨k,hk,rfl,hb,htk⟩:=hrel;have htk:=Za htk;rename_i u1;clear u1;by_cases hlt:k<n1
 ·have hl1:k<l.length:=by rw[h1'.out];exact hlt
  have hl2:k<l'.length:=by rw[h2'.out];exact hlt
  obtain⟨b1,o1,rfl,_,q1⟩:=(r1'.out.below hb).at_ (k:=k) (by simpa using hl1);obtain⟨b2,o2,rfl,_,q2⟩:=(r2'.out.below hb).at_ (k:=k) (by simpa using hl2);rw[List.getElem_map]at q1 q2;have hx:=Za (List.take_succ_eq_append_getElem hl1);have hy:=Za (List.take_succ_eq_append_getElem hl2);have hinj:Hid (l=l'→l[k]=l'[k]):=Za (by rintro rfl;rfl);have hb':=Za hb;clear hb;generalize l[k]=x at q1 hx hinj;generalize l'[k]=y at q2 hy hinj;by_cases hxy:x=y
  ·subst hxy;go_wp2_with fail
   go_region
   all_goals
    go_wp2_with fail;go_roundw
    case rel=>exact⟨k+1,by omega,by go_num,hb'.out.drew,by rw[hx.out,hy.out,htk.out]⟩
    case measure=>simp[intOf];omega
  ·have hd:=Za (show decide (l=l')=false by
    simp only[decide_eq_false_iff_not]
    exact fun h=>hxy (hinj.out h))
   have hbq:(x==y)=false:=by simpa using hxy
   go_wp2_with fail
   go_region
   all_goals
    go_wp2_with fail;go_ret;exact⟨by rw[hd.out];rfl,hb'.out.drew⟩
 ·obtain rfl:k=n1:=by omega
  have hd:=Za (show decide (l=l')=true by
   have:=htk.out;rw[show l.take k=l by rw[←h1'.out,List.take_length],show l'.take k=l' by rw[←h2'.out,List.take_length]]at this
   simpa using this)
  go_wp2_with fail;go_ret;exact⟨by rw[hd.out];rfl,hb⟩
theorem xW (l:List S):(l.map ay).map Value.string=l.map encStr:=by rw[List.map_map];rfl
theorem check_any (w:World) (A:Option Addr) (n c:Nat) (l:List S) (hn:l.length=n) (hm:n≤100000) (hne:l≠[]) (hr:Row w w.heap.size A (l.map encStr)):
  Calls Tryz.prog 27 #[.agg #[.slice A n c,.slice none 0 0]] w fun e w'=>e= .returned (.int .i64 (if kC l then 60 else 0:Nat))∧Below w.heap.size w w':=by
 obtain⟨w1,hw1⟩:∃y,y=w.alloc (.cells #[.slice A n c,.slice none 0 0] 48):=⟨_,rfl⟩;obtain⟨g,hg⟩:∃y,y=w.heap.size:=⟨_,rfl⟩
 have hb1:Below w.heap.size w w1:=by rw[hw1];exact aA w _
 have hH1:Holds w1 g 48 #[.slice A n c,.slice none 0 0]:=by rw[hw1,hg];exact Holds.new w _ _
 obtain⟨b,off,rfl,_,hcell⟩:=hr (by simpa using hne)
 have hcl:=Za (Tryz.slices_Clone_string b off n c (l.map ay) w1 (by simp[hn]) (by omega) (fun j hj=>by
  have hj2:j<l.length:=by simpa using hj
  have h1:=hcell j (encStr l[j]) (by simp[hj2]);have h2:w1.cell? ⟨b,off+j,none⟩=w.cell? ⟨b,off+j,none⟩:=hb1.cell (p:=⟨b,off+j,none⟩) (by assumption);rw[h2,h1];simp[hj2]
  rfl))
 have q0:w1.cell? ⟨g,0,none⟩=some (.slice (some ⟨b,off,none⟩) n c):=hH1.cell 0;have q1:w1.cell? ⟨g,1,none⟩=some (.slice none 0 0):=hH1.cell 1;have ql:=hH1.lt;have hfo:=Za hw1.symm;have hg':=Za hg.symm;have hb1':=Za hb1;have hH1':=Za hH1;have hn':=Za hn
 obtain⟨R,hR⟩:∃R:Nat,R=if kC l then 60 else 0:=⟨_,rfl⟩
 rw[←hR];have hR':=Za hR;clear hw1 hg hb1 hH1 hcell hr hn hR hne;go_enter Tryz.func27,Tryz.ntmps27;go_upto_region 1 with(fail);rw[hfo.out,hg'.out];clear hfo hg';go_wp2_with fail;refine hcl.out.mono ?_;rintro e w2 ⟨v,rfl,ho,-,hb2⟩;have hH2:=hH1'.out.below hb2 hH1'.out.lt;clear hcl q0 q1 ql;have q1:w2.cell? ⟨g,1,none⟩=some (.slice none 0 0):=hH2.cell 1;have ql:=hH2.lt;rw[List.take_of_length_le (by simp[hn'.out]),xW,←hn'.out]at ho;have htw:=Za (tV w1 w2 v l (by rw[hn'.out];omega) ho hb2);have hb12:=Za (hb1'.out.trans (hb2.mono hb1'.out.size));clear ho hH2 hb2 hH1';go_wp2_with fail;go_loopw [3,12] (fun x i wl=>x=v∧i= .int .i64 0∧Hid (wl=w2)) (fun _ _ _=>0)
 case atStart=>exact⟨rfl,rfl,Za rfl⟩
 obtain⟨hx,rfl,hw⟩:=hrel;subst hx;rename World=>wl;obtain rfl:wl=w2:=hw.out;clear hw;go_wp2_with fail;refine htw.out.mono ?_;rintro e w3 ⟨rfl,hb3⟩;have hB3:=Za (hb1'.out.trans (hb3.mono hb1'.out.size));clear htw hb3 q1 ql
 cases hd:kC l with
 |true=>
  have hRR:Hid (R=60):=Za (by rw[hR'.out,hd];rfl);clear hd hR';go_wp2_with fail;go_ret;exact⟨by rw[hRR.out];rfl,hB3.out⟩
 |false=>
  have hRR:Hid (R=0):=Za (by rw[hR'.out,hd];rfl);clear hd hR';go_wp2_with fail;go_ret;exact⟨by rw[hRR.out];rfl,hB3.out⟩
def vG (f:Fnc) (a b:Int) (w:World) (e:Ending) (w':World):Prop:=∃A1 A2 A3 c1 c2 c3,e= .returned (.tuple #[.agg (fnC f.nm A1 A2 A3 f.ps.length c1 f.ls.length c2 f.body.len c3),.int .i64 a,.int .i64 b])∧eP w' Evr f (.slice A1 f.ps.length c1) (.slice A2 f.ls.length c2) (.slice A3 f.body.len c3)∧Below w.heap.size w w'
theorem eP.slices {w:World} {S:Nat→Prop} {f:Fnc} {vp vl vb:Value} (h:eP w S f vp vl vb):∃A1 A2 A3 c1 c2 c3,vp= .slice A1 f.ps.length c1∧vl= .slice A2 f.ls.length c2∧vb= .slice A3 f.body.len c3:=by
 obtain⟨-,⟨A1,c1,e1,-⟩,⟨A2,c2,e2,-⟩,⟨A3,c3,us,e3,-⟩⟩:=h;exact⟨A1,A2,A3,c1,c2,c3,e1,e2,e3⟩
theorem zD.out {r:Fnc×Nat×Nat} {f:Fnc} {a b:Nat} {w w':World} {e:Ending} (h:zD r w e w') (hr:r=(f,a,b)):vG f a b w e w':=by
 subst hr;obtain⟨vp,vl,vb,rfl,hF,hb⟩:=h;obtain⟨A1,A2,A3,c1,c2,c3,rfl,rfl,rfl⟩:=hF.slices;exact⟨A1,A2,A3,c1,c2,c3,rfl,hF.mono fun _ _ _=>trivial,hb⟩
theorem dO.out {r:Fnc×Int×Nat} {f:Fnc} {a:Int} {b:Nat} {w w':World} {e:Ending} (h:dO r w e w') (hr:r=(f,a,b)):vG f a b w e w':=by
 subst hr;obtain⟨vp,vl,vb,rfl,hF,hb⟩:=h;obtain⟨A1,A2,A3,c1,c2,c3,rfl,rfl,rfl⟩:=hF.slices;exact⟨A1,A2,A3,c1,c2,c3,rfl,hF,hb⟩
structure wF (g:Nat) (f:Fnc) (A1 A2 A3:Option Addr) (c1 c2 c3:Nat) (w:World):Prop where
 h:Holds w g 26 (fnC f.nm A1 A2 A3 f.ps.length c1 f.ls.length c2 f.body.len c3)
 at_:eP w Evr f (.slice A1 f.ps.length c1) (.slice A2 f.ls.length c2) (.slice A3 f.body.len c3)
section
variable {g:Nat} {f:Fnc} {A1 A2 A3:Option Addr} {c1 c2 c3:Nat} {w w':World}
theorem wF.below (h:wF g f A1 A2 A3 c1 c2 c3 w) (hb:Below w.heap.size w w'):wF g f A1 A2 A3 c1 c2 c3 w':=⟨h.h.below hb h.h.lt,h.at_.below hb⟩
theorem wF.new (h:eP w Evr f (.slice A1 f.ps.length c1) (.slice A2 f.ls.length c2) (.slice A3 f.body.len c3)):wF w.heap.size f A1 A2 A3 c1 c2 c3 (w.alloc (.cells (fnC f.nm A1 A2 A3 f.ps.length c1 f.ls.length c2 f.body.len c3) 26)):=⟨Holds.new w _ _,h.below (aA w _)⟩
theorem wF.facts (h:wF g f A1 A2 A3 c1 c2 c3 w):w.cell? ⟨g,0,none⟩=some (.string (ay f.nm))∧w.cell? ⟨g,1,none⟩=some (.slice A1 f.ps.length c1)∧w.cell? ⟨g,2,none⟩=some (.slice A2 f.ls.length c2)∧w.cell? ⟨g,3,none⟩=some (.slice A3 f.body.len c3)∧g<w.heap.size:=
 ⟨h.h.cell 0,h.h.cell 1,h.h.cell 2,h.h.cell 3,h.h.lt⟩
end
theorem xR {w:World} {l:Sl} {A:Option Addr} {n c:Nat} (h:aQ w Evr l (.slice A n c)) (hl:l≠.nil):∃b off,A=some ⟨b,off,none⟩∧w.cell? ⟨b,off,none⟩=some (.int .i64 (pI l).k)∧w.cell? ⟨b,off+2,none⟩=some (.string (ay (pI l).y))∧b<w.heap.size:=by
 obtain⟨A',c',us,e,-,-,hR⟩:=h.rest;injection e with e1 e2 e3;subst e1
 cases l with
 |nil=>exact absurd rfl hl
 |cons h t e r=>
  obtain⟨b,off,pe,pf,pc,Aa,ca,At,ct,Al,cl,us',hA,-,-,-,hc,-⟩:=hR.next;have h0:=hc 0 (by decide);have h2:=hc 2 (by decide);simp only[Nat.zero_mul,Nat.add_zero]at h0 h2;exact⟨b,off,hA,h0,h2,lt_of_cell h0⟩
theorem wI (w0 w:World) (v:Value) (x:S) (ho:w.ownsRow w0.heap.size 9 1 v [x].length ([x].map encStr)):∃A c,v= .slice A 1 c∧
  Calls Tryz.prog 16 #[.slice A 1 c,.slice (some ⟨w.heap.size,0,none⟩) 1 1] (w.alloc (.cells #[.string ⟨x.toArray⟩] 9)) fun e w'=>e= .returned (.bool true)∧Below w.heap.size w w':=by
 obtain⟨A,c,e,hr,-⟩:=Dq ho;refine⟨A,c,e,?_⟩;have hb:=aA w (.cells #[.string ⟨x.toArray⟩] 9);refine(CU (w.alloc (.cells #[.string ⟨x.toArray⟩] 9)) A (some ⟨w.heap.size,0,none⟩) 1 1 c 1 [x] [x] rfl rfl (by omega) (by omega) ((hr.below hb).more hb.size) (Row.one w 9 (encStr x))).mono fun e' w' ⟨h1,h2⟩=>⟨?_,hb.trans (h2.mono hb.size)⟩;rw[h1];simp
theorem lD (w:World) (f r:Fnc) (unit:S) (a:Int) (b:Nat) (h:bK f unit=(r,a,b)) {A1 A2 A3:Option Addr} {c1 c2 c3:Nat} (hF:eP w Evr f (.slice A1 f.ps.length c1) (.slice A2 f.ls.length c2) (.slice A3 f.body.len c3)):
  Calls Tryz.prog 10 #[.agg (fnC f.nm A1 A2 A3 f.ps.length c1 f.ls.length c2 f.body.len c3),.string (ay unit)] w (vG r a b w):=(wV w f unit A1 A2 A3 c1 c2 c3 hF).mono fun _ _ h2=>h2.out h
theorem mP (w:World):Calls Tryz.prog 8 #[] w fun e w'=>e= .returned (.bool true)∧Below w.heap.size w w':=by
 have cF:Calls Tryz.prog 9 #[.string ⟨#[102,110,32,102,40,42,112,41,32,123,32,112,116,114,32,113,59,32,113,32,61,32,112,59,32,99,32,61,32,103,40,49,41,59,32,125]⟩] w (vG knF (0:Nat) (0:Nat) w):=
  (rV w ⟨#[102,110,32,102,40,42,112,41,32,123,32,112,116,114,32,113,59,32,113,32,61,32,112,59,32,99,32,61,32,103,40,49,41,59,32,125]⟩ (by decide)).mono fun e w' h=>h.out EW
 have cF':=Za cF;obtain⟨f,hf⟩:∃f,f=knF:=⟨_,rfl⟩;obtain⟨r,hr⟩:∃f,f=knR:=⟨_,rfl⟩;rw[←hf]at cF';have hf':=Za hf;have hr':=Za hr;clear cF hf hr;go_enter Tryz.func8,Tryz.ntmps8;go_wp2_with fail;refine cF'.out.mono ?_;clear cF';rintro e w1 ⟨A1,A2,A3,c1,c2,c3,rfl,hF,hb1⟩;have hX1:=wF.new hF;have hb2:=aA w1 (.cells (fnC f.nm A1 A2 A3 f.ps.length c1 f.ls.length c2 f.body.len c3) 26);obtain⟨n1,hn1⟩:∃y,y=f.ps.length:=⟨_,rfl⟩;obtain⟨n2,hn2⟩:∃y,y=f.ls.length:=⟨_,rfl⟩;obtain⟨n3,hn3⟩:∃y,y=f.body.len:=⟨_,rfl⟩;obtain⟨w2,hw2⟩:∃x,x=w1.alloc (.cells (fnC f.nm A1 A2 A3 f.ps.length c1 f.ls.length c2 f.body.len c3) 26):=⟨_,rfl⟩;obtain⟨g1,hg1⟩:∃x,x=w1.heap.size:=⟨_,rfl⟩;rw[←hw2,←hg1]at hX1;rw[←hw2]at hb2;have hB2:=Za (hb1.trans (hb2.mono hb1.size));have hX1':=Za hX1;obtain⟨q0,q1,q2,q3,ql⟩:=hX1.facts;have hc2:=Za (lD w2 f r [102] 0 0 (by rw[hf'.out,hr'.out];exact FP) hX1.at_);have hfo:=Za hw2.symm;have hg1':=Za hg1.symm;rw[←hn1,←hn2,←hn3]at hc2 hfo⊢;rw[←hn1]at q1;rw[←hn2]at q2;rw[←hn3]at q3;unfold fnC ay at hc2;unfold fnC at hfo⊢
 have hN:=Za (And.intro hn1 (And.intro hn2 hn3));clear hF hb1 hb2 hw2 hg1 hX1 hn1 hn2 hn3;go_upto_region 2 with(fail);rw[hfo.out,hg1'.out];clear hfo hg1';go_wp2_with fail;refine hc2.out.mono ?_;clear hc2 q0 q1 q2 q3 ql;rintro e w3 ⟨B1,B2,B3,d1,d2,d3,rfl,hR,hb3⟩;obtain⟨m1,hm1⟩:∃y,y=r.ps.length:=⟨_,rfl⟩;obtain⟨m2,hm2⟩:∃y,y=r.ls.length:=⟨_,rfl⟩
 have hm3:r.body.len=2:=by rw[hr'.out];exact FT
 have hY3:=wF.new hR;have hb4:=aA w3 (.cells (fnC r.nm B1 B2 B3 r.ps.length d1 r.ls.length d2 r.body.len d3) 26);obtain⟨w4,hw4⟩:∃x,x=w3.alloc (.cells (fnC r.nm B1 B2 B3 r.ps.length d1 r.ls.length d2 r.body.len d3) 26):=⟨_,rfl⟩;obtain⟨g4,hg4⟩:∃x,x=w3.heap.size:=⟨_,rfl⟩;rw[←hw4,←hg4]at hY3;rw[←hw4]at hb4;have hX4:=(hX1'.out.below hb3).below hb4;have hB4:=Za ((hB2.out.trans (hb3.mono hB2.out.size)).trans (hb4.mono (hB2.out.trans (hb3.mono hB2.out.size)).size));have hY4:=Za hY3;obtain⟨q0,q1,q2,q3,ql⟩:=hX4.facts;have hc5:=Za (lD w4 f Fnc.none [103] (-1) 62 (by rw[hf'.out];exact FQ) hX4.at_);have hfo:=Za hw4.symm;have hg4':=Za hg4.symm;rw[←hN.out.1,←hN.out.2.1,←hN.out.2.2]at hc5;rw[←hN.out.1]at q1;rw[←hN.out.2.1]at q2;rw[←hN.out.2.2]at q3;unfold fnC ay at hc5;rw[←hm1,←hm2,hm3]at hfo⊢;unfold fnC at hfo⊢;have hM:=Za (And.intro hm1 (And.intro hm2 hm3));clear hR hb3 hb4 hw4 hg4 hX4 hY3 hm1 hm2 hm3 hX1' hB2;go_upto_region 3 with(fail);rw[hfo.out,hg4'.out];clear hfo hg4';go_wp2_with fail;refine hc5.out.mono ?_;clear hc5 q0 q1 q2 q3 ql;rintro e w5 ⟨C1,C2,C3,e1,e2,e3,rfl,-,hb5⟩
 have hb6:=aA w5 (.cells #[.string (ay Fnc.none.nm),.slice C1 Fnc.none.ps.length e1,.slice C2 Fnc.none.ls.length e2,.slice C3 Fnc.none.body.len e3] 26);have hY6:=hY4.out.below hb5;have hB6:=hB4.out.trans (hb5.mono hB4.out.size);obtain⟨w6,hw6⟩:∃x,x=w5.alloc (.cells #[.string (ay Fnc.none.nm),.slice C1 Fnc.none.ps.length e1,.slice C2 Fnc.none.ls.length e2,.slice C3 Fnc.none.body.len e3] 26):=⟨_,rfl⟩;rw[←hw6]at hb6;have hY7:=hY6.below hb6;have hB7:=Za (hB6.trans (hb6.mono hB6.size));have hY7':=Za hY7;have hkh:Hid ((pI r.body).k=2∧(pI r.body).y= [112]):=Za (by rw[hr'.out];exact EU)
 have hne:r.body≠.nil:=fun e=>by have h1:=hM.out.2.2;rw[e]at h1;simp[Sl.len]at h1
 obtain⟨b,off,rfl,t0,t2,tl⟩:=xR hY7.at_.body hne;rw[hkh.out.1]at t0;rw[hkh.out.2]at t2;unfold ay at t2;obtain⟨q0,q1,q2,q3,ql⟩:=hY7.facts;rw[←hM.out.1]at q1;rw[←hM.out.2.1]at q2;rw[hM.out.2.2]at q3;have cC:=Za (Ei w6 r B1 B2 (some ⟨b,off,none⟩) d1 d2 d3 hY7.at_ (by rw[hr'.out];exact DF));have hLC:Hid (canon (each (globs (cZ (r.ps++r.ls)) iw) r.body)= [[103]]):=Za (by rw[hr'.out];exact DJ);rw[hLC.out,←hM.out.1,←hM.out.2.1,hM.out.2.2]at cC;unfold fnC at cC;have hfo:=Za hw6.symm;clear hb5 hb6 hY6 hB6 hw6 hY7 hkh hne hLC hY4 hB4;unfold fnC;go_upto_region 4 with(fail);rw[hfo.out];clear hfo;go_wp2_with fail;refine cC.out.mono ?_;clear cC q0 q1 q2 q3 ql t0 t2 tl;rintro e w8 ⟨⟨v,rfl,ho⟩,hb8⟩;obtain⟨vA,vc,rfl,hcs⟩:=wI w6 w8 v [103] ho;have hcs':=Za hcs;have hY8:=hY7'.out.below hb8;obtain⟨q0,q1,q2,q3,ql⟩:=hY8.facts;rw[←hM.out.1]at q1;rw[←hM.out.2.1]at q2;rw[hM.out.2.2]at q3;have hB8:=Za (hB7.out.trans (hb8.mono hB7.out.size));have hY8':=Za hY8;have hl1:Hid ([[103]].length=1):=Za rfl;clear ho hcs hb8 hY8 hY7' hB7;go_wp2_with fail;refine hcs'.out.mono ?_
 clear hcs' q0 q1 q2 q3 ql;rintro e w9 ⟨rfl,hb9⟩;have hY9:=hY8'.out.below hb9;obtain⟨q0,q1,q2,q3,ql⟩:=hY9.facts;rw[←hM.out.1]at q1;rw[←hM.out.2.1]at q2;rw[hM.out.2.2]at q3;have cL:=Za (BH w9 r B1 B2 (some ⟨b,off,none⟩) d1 d2 d3 hY9.at_ (by rw[hr'.out];exact EX));have hLC:Hid (canon (each (hdP (cZ (r.ps++r.ls))) r.body)= [[99]]):=Za (by rw[hr'.out];exact DI);rw[hLC.out,←hM.out.1,←hM.out.2.1,hM.out.2.2]at cL;unfold fnC at cL;have hB9:=Za (hB8.out.trans (hb9.mono hB8.out.size));clear hb9 hY9 hLC hY8' hB8;go_wp2_with fail;refine cL.out.mono ?_;clear cL q0 q1 q2 q3 ql;rintro e wa ⟨⟨v,rfl,ho⟩,hba⟩;obtain⟨uA,uc,rfl,hcs⟩:=wI w9 wa v [99] ho;have hcs':=Za hcs;have hBa:=Za (hB9.out.trans (hba.mono hB9.out.size));clear ho hcs hba hB9;go_wp2_with fail;refine hcs'.out.mono ?_;clear hcs';rintro e wb ⟨rfl,hbb⟩;have hBb:=hBa.out.trans (hbb.mono hBa.out.size);have hbc:=aA wb (.cells #[.string ⟨#[97]⟩,.string ⟨#[97]⟩] 9)
 have hck:=Za (check_any (wb.alloc (.cells #[.string ⟨#[97]⟩,.string ⟨#[97]⟩] 9)) (some ⟨wb.heap.size,0,none⟩) 2 2 [[97],[97]] rfl (by omega) (by simp) (Row.fresh wb 9 [.string ⟨#[97]⟩,.string ⟨#[97]⟩]));rw[DC]at hck;have hBc:=Za (hBb.trans (hbc.mono hBb.size));clear hBb hbc hbb hBa;go_wp2_with fail;refine hck.out.mono ?_;clear hck;rintro e wd ⟨rfl,hbd⟩;have hBd:=Za (hBc.out.trans (hbd.mono hBc.out.size));clear hbd hBc;go_wp2_with fail;go_ret;exact⟨rfl,hBd.out⟩
end Go.Proofs.YtpndglghpojjkaaGreat
namespace Go.Proofs.YtpndglghpojjkaaGreat
open Go.RowKit Go.ChangeShapes Go.WideShapes Go.Deep
def Trd (t:TypeId) (W:World) (cs:List Value):Prop:=
 ∃(H:Type) (enc:TypeId×Value→H) (fuel:Nat) (x:DataW H×List MemPlace),DataW.trod enc Tryz.prog W 0 (fun _=>true) true fuel t cs=some x
theorem gQ.trd {t:TypeId} {W:World} {v:Value} (h:gQ t W v):Trd t W v.cells.toList:=by
 obtain⟨H,enc,d,p,base,hok,fuel,hf⟩:=h;exact⟨H,enc,fuel,_,hf⟩
theorem zV {α:Type} {C:Nat}:∀{css:List (List α)} (_:∀x∈css,x.length=C) {j:Nat} {u:α},css.flatten[j]? =some u→∃i r cs,css[i]? =some cs∧cs[r]? =some u∧j=i*C+r∧r<C
 | [],_,j,u,h=>by simp at h
 |c::css,hl,j,u,h=>by
  have hc:=hl c (List.mem_cons_self ..);rw[List.flatten_cons]at h;rcases Nat.lt_or_ge j C with hj|hj
  ·rw[List.getElem?_append_left (by omega)]at h;exact⟨0,j,c,rfl,h,by omega,hj⟩
  ·rw[List.getElem?_append_right (by omega),hc]at h;obtain⟨i,r,cs,h1,h2,h3,h4⟩:=zV (fun x hx=>hl x (List.mem_cons_of_mem _ hx)) h;exact⟨i+1,r,cs,by simpa using h1,h2,by rw[Nat.add_mul];omega,h4⟩
theorem vK {W:World} {a:Addr} {vs:List Value} (hc:∀j u,vs[j]? =some u→W.cell? (a.add j)=some u):Row W W.heap.size (some a) vs:=fun hne=>by
 obtain⟨b,off,spot⟩:=a
 obtain⟨u0,hu0⟩:∃u,vs[0]? =some u:=by
  cases vs with
  |nil=>exact absurd rfl hne
  |cons x r=>exact⟨x,rfl⟩
 have h0:=hc 0 u0 hu0
 have hspot:spot=none:=by simpa[Addr.add]using World.cell?_spot h0
 subst hspot
 have hadd:∀j,(⟨b,off,none⟩:Addr).add j=⟨b,off+j,none⟩:=by intro j;unfold Addr.add;split<;>simp_all
 refine⟨b,off,rfl,?_,fun j u hu=>by rw[←hadd];exact hc j u hu⟩;rw[hadd]at h0;exact block_lt_of_cell h0
theorem add_add' (a:Addr) (i j:Nat):(a.add i).add j=a.add (i+j):=by
 unfold Addr.add;split<;>split<;>simp_all<;>omega
theorem Trd.slice {t e:TypeId} {W:World} {cs:List Value} (ht:Tryz.prog.underlying t=some (.slice e)) (h:Trd t W cs):
  ∃(A:Option Addr) (n c:Nat) (css:List (List Value)),cs= [.slice A n c]∧css.length=n∧n≤c∧c≤maxLen∧(∀x∈css,x.length=Tryz.prog.cellsOf e∧Trd e W x)∧Row W W.heap.size A css.flatten:=by
 obtain⟨H,enc,fuel,x,hf⟩:=h;rcases open_slice ht hf with⟨rfl,_⟩| ⟨a,len,cap,m,n,D,Pl,rfl,_,hl,hm,hmm,_,hi⟩
 ·exact⟨none,0,0,[],rfl,rfl,Nat.le_refl _,by simp,fun x hx=>by simp at hx,Row.nil_ _ _ _⟩
 ·simp only[if_true]at hmm;subst hmm;obtain⟨f,hfl⟩:=choose_lt (p:=fun i cs'=>W.cells? 0 (a.add (i*Tryz.prog.cellsOf e)) (Tryz.prog.cellsOf e)=some cs'∧DataW.trod enc Tryz.prog W 0 (fun _=>true) true n e cs'=some (D i,Pl i)) (fun i him=>hi i him)
  have hlen:∀x∈(List.range len).map f,x.length=Tryz.prog.cellsOf e:=by intro x hx;obtain⟨i,hi',rfl⟩:=List.mem_map.1 hx;exact(World.cells?_some (hfl i (by have:=List.mem_range.1 hi';omega)).1).2.1
  refine⟨some a,len,m,(List.range len).map f,rfl,by simp,hl,hm,fun x hx=>⟨hlen x hx,?_⟩,vK fun j u hu=> ?_⟩
  ·obtain⟨i,hi',rfl⟩:=List.mem_map.1 hx;exact⟨H,enc,n,_,(hfl i (by have:=List.mem_range.1 hi';omega)).2⟩
  ·obtain⟨i,r,cs,h1,h2,rfl,hr⟩:=zV hlen hu
   have hil:i<len:=by
    rcases Nat.lt_or_ge i len with h|h
    ·exact h
    ·rw[List.getElem?_eq_none (by simp;omega)]at h1;cases h1
   have e1:f i=cs:=by simpa[hil]using h1
   obtain⟨_,_,hat⟩:=World.cells?_some (hfl i (by omega)).1;have:=hat r hr;rw[add_add']at this;rw[this,e1,h2]
theorem Trd.int {k:IntKind} {t:TypeId} {W:World} {cs:List Value} (ht:Tryz.prog.underlying t=some (.int k)) (h:Trd t W cs):∃n,cs= [.int k n]∧(Lit.int k n).wf=true:=by
 obtain⟨H,enc,fuel,x,hf⟩:=h;obtain⟨n,h1,_,h2⟩:=DataW.trod_int ht hf;exact⟨n,h1,h2⟩
theorem Trd.bool {t:TypeId} {W:World} {cs:List Value} (ht:Tryz.prog.underlying t=some .bool) (h:Trd t W cs):∃b,cs= [.bool b]:=by
 obtain⟨H,enc,fuel,x,hf⟩:=h;obtain⟨b,h1,_⟩:=DataW.trod_bool ht hf;exact⟨b,h1⟩
theorem Trd.string {t:TypeId} {W:World} {cs:List Value} (ht:Tryz.prog.underlying t=some .string) (h:Trd t W cs):∃s:ByteArray,cs= [.string s]∧s.size≤maxLen:=by
 obtain⟨H,enc,fuel,x,hf⟩:=h;obtain⟨b,h1,_,h2⟩:=DataW.trod_string ht hf;exact⟨b,h1,h2⟩
theorem Trd.struct {fs:Array Field} {t:TypeId} {W:World} {cs:List Value} (ht:Tryz.prog.underlying t=some (.struct fs)) (h:Trd t W cs):
  cs.length=Tryz.prog.cellsOf t∧∀(i:Nat) (f:Field),fs[i]? =some f→Trd f.type W ((cs.drop f.offset).take (Tryz.prog.cellsOf f.type)):=by
 obtain⟨H,enc,fuel,x,hf⟩:=h;obtain⟨xs,n,_,_,hl,hx,hg⟩:=DataW.trod_struct ht hf;refine⟨hl,fun i f hif=> ?_⟩
 have hlt:i<xs.length:=by rw[hx];exact(Array.getElem?_eq_some_iff.1 hif).1
 exact⟨H,enc,n,xs[i],by rw[hg i f hif];exact List.getElem?_eq_getElem hlt⟩
theorem Trd.row {α:Type} {t e:TypeId} {W:World} {cs:List Value} {f:α→Value} {p:α→Prop} (ht:Tryz.prog.underlying t=some (.slice e)) (hd:∀x,Trd e W x→∃a,x= [f a]∧p a) (h:Trd t W cs):
  ∃(A:Option Addr) (n c:Nat) (l:List α),cs= [.slice A n c]∧l.length=n∧n≤c∧c≤maxLen∧(∀a∈l,p a)∧Row W W.heap.size A (l.map f):=by
 obtain⟨A,n,c,css,rfl,hn,hc,hm,hx,hr⟩:=h.slice ht
 have:∀css:List (List Value),(∀x∈css,Trd e W x)→∃l:List α,l.length=css.length∧css.flatten=l.map f∧∀a∈l,p a:=by
  intro css
  induction css with
  |nil=>exact fun _=>⟨[],rfl,rfl,by simp⟩
  |cons y r ih=>
   intro hy;obtain⟨l,h1,h2,h3⟩:=ih fun x hx=>hy x (List.mem_cons_of_mem _ hx);obtain⟨a,rfl,ha⟩:=hd y (hy y (List.mem_cons_self ..));refine⟨a::l,by simp[h1],by simp[h2],fun x hx=> ?_⟩;rcases List.mem_cons.1 hx with rfl|hx
   ·exact ha
   ·exact h3 x hx
 obtain⟨l,h1,h2,h3⟩:=this css fun x hx'=>(hx x hx').2;exact⟨A,n,c,l,rfl,by omega,hc,hm,h3,by rw[←h2];exact hr⟩
end Go.Proofs.YtpndglghpojjkaaGreat
namespace Go.Proofs.YtpndglghpojjkaaGreat
open Go.RowKit Go.Deep Go.Maps Go.ChangeShapes Go.WideShapes
open Go.ChangeMaps (open_string)
theorem gQ.text {W:World} {v:Value} (h:gQ 9 W v):∃s:ByteArray,v= .string s∧s.size≤maxLen:=by
 obtain⟨s,e,hs⟩:=h.trd.string Tryz.underlying9;obtain⟨H,enc,d,p,base,hok,hf⟩:=h;obtain⟨s',rfl,h2⟩:=open_string Tryz.underlying9 hok hf;simp[Value.cells]at e;subst e;exact⟨_,rfl,hs⟩
theorem Gm {f r:Fnc} {unit:S} {a:Int} (h:bK f unit=(r,a,0)):a=0∧r=⟨f.nm,f.ps,f.ls,dI (cZ (f.ps++f.ls)) f.body⟩∧dF (cZ (f.ps++f.ls)) f.body=none∧kC (fQ (f.ps++f.ls))=false∧f.nm=unit∧f.nm≠h_:=by
 unfold bK at h;by_cases h1:f.nm≠unit∨unit=h_
 ·rw[if_pos h1]at h;cases h
 ·rw[if_neg h1]at h;unfold jv at h;have e1:f.nm=unit:=Classical.byContradiction fun e=>h1 (.inl e);have e2:f.nm≠h_:=fun e=>h1 (.inr (e1▸e))
  cases hd:kC (fQ (f.ps++f.ls))with
  |true=>rw[hd,if_pos rfl]at h;cases h
  |false=>
   rw[hd,if_neg (by simp)]at h
   cases hf:dF (cZ (f.ps++f.ls)) f.body with
   |some b=>rw[hf]at h;unfold mG at h;cases h
   |none=>
    rw[hf]at h;unfold mG at h;simp only[Prod.mk.injEq]at h;exact⟨h.2.1.symm,h.1.symm,rfl,rfl,e1,e2⟩
end Go.Proofs.YtpndglghpojjkaaGreat
namespace Go.Proofs.YtpndglghpojjkaaGreat
open Go.RowKit Go.Deep
theorem vN {f:Fnc} (hw:WfS f.body) (unit:S):lG f unit=bK f unit:=by
 unfold lG bK;by_cases h1:f.nm=unit
 ·by_cases h2:f.nm=h_
  ·rw[if_pos (.inr h2),if_pos (.inr (h1▸h2))]
  ·rw[if_neg (by rintro(h|h);exact h h1;exact h2 h),if_neg (by rintro(h|h);exact h h1;exact h2 (h1▸h))];unfold AU jv
   cases hd:kC (fQ (f.ps++f.ls))with
   |true=>rfl
   |false=>
    have hk:cZ (f.ps++f.ls)=dX (f.ps++f.ls):=DL ((iR _).1 hd);rw[if_neg (by simp),if_neg (by simp),hk];obtain⟨e1,e2⟩:=jJ (K:=dX (f.ps++f.ls)) hw;rw[←e1]
    cases hs:aO (dX (f.ps++f.ls)) f.body with
    |mk lb ab=>
     rw[hs]at e2
     cases ab with
     |some a=>rfl
     |none=>
      unfold E_ mG;simp only[hk];rw[←e2 rfl]
 ·rw[if_pos (.inl h1),if_pos (.inl h1)]
def EF (f:Fnc) (a b:Int) (w:World) (e:Ending) (w':World):Prop:=∃A1 A2 A3 n1 n2 n3 c1 c2 c3,e= .returned (.tuple #[.agg #[.string (ay f.nm),.slice A1 n1 c1,.slice A2 n2 c2,.slice A3 n3 c3],.int .i64 a,.int .i64 b])∧eP w' Evr f (.slice A1 n1 c1) (.slice A2 n2 c2) (.slice A3 n3 c3)∧Below w.heap.size w w'
theorem vG.num {f:Fnc} {a b:Int} {w w':World} {e:Ending} (h:vG f a b w e w'):EF f a b w e w':=by
 obtain⟨A1,A2,A3,c1,c2,c3,rfl,hF,hb⟩:=h;exact⟨A1,A2,A3,_,_,_,c1,c2,c3,rfl,hF,hb⟩
section
variable {f:Fnc} {A1 A2 A3:Option Addr} {n1 n2 n3 c1 c2 c3:Nat} {w w':World}
theorem eP.nums (h:eP w Evr f (.slice A1 n1 c1) (.slice A2 n2 c2) (.slice A3 n3 c3)):n1=f.ps.length∧n2=f.ls.length∧n3=f.body.len:=by
 obtain⟨A1',A2',A3',c1',c2',c3',e1,e2,e3⟩:=h.slices;injection e1 with _ e1;injection e2 with _ e2;injection e3 with _ e3;exact⟨e1,e2,e3⟩
theorem jQ (w:World) {r:Fnc} {unit:S} {a:Int} {b:Nat} (hw:WfS f.body) (h:bK f unit=(r,a,b)) (hF:eP w Evr f (.slice A1 n1 c1) (.slice A2 n2 c2) (.slice A3 n3 c3)):
  Calls Tryz.prog 11 #[.agg #[.string (ay f.nm),.slice A1 n1 c1,.slice A2 n2 c2,.slice A3 n3 c3],.string (ay unit)] w (EF r a b w):=by
 obtain⟨rfl,rfl,rfl⟩:=hF.nums;rw[←vN hw]at h;exact(sV w f unit A1 A2 A3 c1 c2 c3 hF).mono fun _ _ h2=>(h2.out h).num
structure jH (g:Nat) (f:Fnc) (A1 A2 A3:Option Addr) (n1 n2 n3 c1 c2 c3:Nat) (w:World):Prop where
 h:Holds w g 26 #[.string (ay f.nm),.slice A1 n1 c1,.slice A2 n2 c2,.slice A3 n3 c3]
 at_:eP w Evr f (.slice A1 n1 c1) (.slice A2 n2 c2) (.slice A3 n3 c3)
theorem jH.below {g:Nat} (h:jH g f A1 A2 A3 n1 n2 n3 c1 c2 c3 w) (hb:Below w.heap.size w w'):jH g f A1 A2 A3 n1 n2 n3 c1 c2 c3 w':=⟨h.h.below hb h.h.lt,h.at_.below hb⟩
theorem jH.new (h:eP w Evr f (.slice A1 n1 c1) (.slice A2 n2 c2) (.slice A3 n3 c3)):jH w.heap.size f A1 A2 A3 n1 n2 n3 c1 c2 c3 (w.alloc (.cells #[.string (ay f.nm),.slice A1 n1 c1,.slice A2 n2 c2,.slice A3 n3 c3] 26)):=⟨Holds.new w _ _,h.below (aA w _)⟩
theorem jH.facts {g:Nat} (h:jH g f A1 A2 A3 n1 n2 n3 c1 c2 c3 w):w.cell? ⟨g,0,none⟩=some (.string (ay f.nm))∧w.cell? ⟨g,1,none⟩=some (.slice A1 n1 c1)∧w.cell? ⟨g,2,none⟩=some (.slice A2 n2 c2)∧w.cell? ⟨g,3,none⟩=some (.slice A3 n3 c3)∧g<w.heap.size:=
 ⟨h.h.cell 0,h.h.cell 1,h.h.cell 2,h.h.cell 3,h.h.lt⟩
end
end Go.Proofs.YtpndglghpojjkaaGreat
