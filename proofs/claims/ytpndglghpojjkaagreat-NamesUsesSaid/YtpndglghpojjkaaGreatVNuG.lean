/-
  The seat's maker: a block; a function's text.
-/
import Derived.Test.YtpndglghpojjkaaGreatVNuF
set_option maxRecDepth 1000000
set_option maxHeartbeats 8000000

namespace Go.Proofs.YtpndglghpojjkaaGreat
open Go.RowKit Go.Deep

set_option maxHeartbeats 4000000 in
theorem block_of (p:Nat) (hp:p≤1) (hs:StOk p):BkOk p:=by
 intro b B g k w0 h hl hk kk hkk;have hX:=SC_le p;have hM0:=Za h;have hs':=Za hs;clear h hs
 have hp1:p=0∨p=1:=by omega
 obtain⟨X,hXe⟩:∃x,x=SC p:=⟨_,rfl⟩;obtain⟨Y,hYe⟩:∃x,x=SM p:=⟨_,rfl⟩
 have hsY:Y≤10000:=by rw[hYe];rcases hp1 with rfl|rfl<;>decide
 have hsX:X≤500:=by rw[hXe];rcases hp1 with rfl|rfl<;>decide
 rw[←hXe,←hYe];have hX':=Za hXe;have hY':=Za hYe;clear hp1 hX hXe hYe;go_enter Tryz.func153,Tryz.ntmps153;go_wp2_with fail;refine(mnext_any b B g _ w0 hM0.out hl (by omega) 4 (by decide) (by decide)).mono ?_;rintro e w1 ⟨⟨r,rfl,hr⟩,hM1,hW1⟩;have hM1':=Za hM1;have hW1':=Za hW1;clear hM1 hW1 hM0;go_wp2_with fail
 go_loopw [7,8] (fun s i wl=>∃(j t:Nat) (u:ByteArray),j+t=r∧s= .string u∧i= .int .i64 j∧u.size≤2+t*Y∧Hid (Mk b B g (k+1+t*X) wl∧Writes [some g] w0 wl)) (fun _ i _=>(intOf i).toNat)
 case atStart=>exact⟨r,0,_,by omega,rfl,rfl,by rw[Nat.zero_mul];decide,Za ⟨by rw[Nat.zero_mul];exact hM1'.out,hW1'.out⟩⟩
 obtain⟨j,t,u,hjt,rfl,rfl,hu,hS⟩:=hrel;rename World=>wl;have t1:t*X≤3*X:=Nat.mul_le_mul_right X (by omega);have t2:t*Y≤3*Y:=Nat.mul_le_mul_right Y (by omega);by_cases hj:j=0
 ·have hj0:¬(0:Int)<j:=by omega
  go_wp2_with fail;go_ret;exact⟨⟨_,rfl,by simp only[ByteArray.size_append,bs_lit,List.size_toArray,List.length_cons,List.length_nil];omega⟩,hS.out.1.more (by omega),hS.out.2⟩
 ·have hj0:(0:Int)<j:=by omega
  have cS:=Za (hs'.out b B g _ wl hS.out.1 hl (by omega) kk hkk);have hu':=Za hu;have e1:=Za (show(t+1)*X=t*X+X from Nat.succ_mul t X);have e2:=Za (show(t+1)*Y=t*Y+Y from Nat.succ_mul t Y);go_wp2_with fail;refine cS.out.mono ?_;clear cS;rintro e w3 ⟨⟨s,rfl,hss⟩,hM3,hW3⟩;rw[←hY'.out]at hss;rw[←hX'.out]at hM3
  have hE:=Za (And.intro hM3 (hS.out.2.trans hW3));clear hM3 hW3;go_wp2_with fail;exact⟨⟨j-1,t+1,u++s,by omega,rfl,by congr 1;omega,by rw[e2.out,ByteArray.size_append];have:=hu'.out;omega,Za ⟨by rw[e1.out];exact hE.out.1.more (by omega),hE.out.2⟩⟩,by simp[intOf];omega⟩
theorem st0:StOk 0:=mstmt_step 0 (by decide) fun p h=>absurd h (by omega)
theorem st1:StOk 1:=mstmt_step 1 (by decide) fun p h=>(show p=0 by omega)▸block_of 0 (by decide) st0
theorem st2:StOk 2:=mstmt_step 2 (by decide) fun p h=>(show p=1 by omega)▸block_of 1 (by decide) st1
set_option maxHeartbeats 4000000 in
theorem mtext_any (b:List UInt8) (w:World) (A:Option Addr) (c:Nat) (hb:Bytes w w.heap.size A b) (hl:b.length≤100000) (kk:Nat) (hkk:kk<4):
  Calls Tryz.prog 50 #[.int .i64 kk,.slice A b.length c] w fun e w'=>(∃s:ByteArray,e= .returned (.string s)∧s.size≤100000)∧Below w.heap.size w w':=by
 have hbn:=aA w (.cells #[.slice A b.length c,.int .i64 0,.int .i64 25] 162);have hH:=Holds.new w 162 #[.slice A b.length c,.int .i64 0,.int .i64 25];have hM:Mk b w.heap.size w.heap.size 0 (w.alloc (.cells #[.slice A b.length c,.int .i64 0,.int .i64 25] 162)):=⟨A,c,0,25,⟨hH,Row.below hb hbn,Nat.le_refl _⟩,by omega,by omega,by omega⟩
 obtain⟨w0,hw0⟩:∃z,z=w.alloc (.cells #[.slice A b.length c,.int .i64 0,.int .i64 25] 162):=⟨_,rfl⟩;obtain⟨g,hg⟩:∃z,z=w.heap.size:=⟨_,rfl⟩;obtain⟨L,hL⟩:∃z,z=b.length:=⟨_,rfl⟩;rw[←hw0]at hbn hM;rw[←hg]at hM;have hfin:Hid (∀w',Writes [some g] w0 w'→Below w.heap.size w w'):=Za fun w' h=>hbn.trans (h.below hbn.size fun k hk=>by simp at hk;omega)
 have hM0:=Za hM;have hW0:=Za (Writes.refl [some g] w0);have hfo:=Za hw0.symm;have hgo:=Za hg.symm;rw[←hL]at hfo⊢;have hL':=Za hL;clear hbn hH hM hw0 hg hb hL;go_enter Tryz.func50,Tryz.ntmps50;go_upto_region 2 with(fail);rw[hfo.out,hgo.out];clear hfo hgo;go_wp2_with fail;refine(mhead_any w0 kk).mono ?_;rintro e w1 ⟨⟨s1,rfl,hs1⟩,hb1⟩
 have hM1:=Za (hM0.out.below hb1);have hW1:=Za (hW0.out.trans (Writes.of_below hb1 _));clear hb1 hM0 hW0;by_cases hk2:kk=2
 ·subst hk2;go_wp2_with fail;refine(mhead_any w1 2).mono ?_;rintro e w2 ⟨⟨s2,rfl,hs2⟩,hb2⟩;have hM2:=Za (hM1.out.below hb2);have hW2:=Za (hW1.out.trans (Writes.of_below hb2 _));clear hb2 hM1 hW1;go_wp2_with fail;refine(mnext_any b g g _ w2 hM2.out hl (by omega) 6 (by decide) (by decide)).mono ?_;rintro e w3 ⟨⟨r3,rfl,hr3⟩,hM3,hW3⟩;replace hW3:=Za (hW2.out.trans hW3)
  replace hM3:=Za hM3;go_wp2_with fail;go_loopw [6,7] (fun s i wl=>∃(j t:Nat) (u:ByteArray),j+t=r3+1∧s= .string u∧i= .int .i64 j∧u.size≤100+t*11100∧Hid (Mk b g g (1+t*2720) wl∧Writes [some g] w0 wl)) (fun _ i _=>(intOf i).toNat)
  case atStart=>exact⟨r3+1,0,_,by omega,rfl,by congr 1;omega,by simp only[ByteArray.size_append,bs_lit,List.size_toArray,List.length_cons,List.length_nil];omega,Za ⟨hM3.out.more (by omega),hW3.out⟩⟩
  obtain⟨j,t,u,hjt,rfl,rfl,hu,hS⟩:=hrel;rename World=>wl;by_cases hj:j=0
  ·have hj0:¬(0:Int)<j:=by omega
   go_wp2_with fail;refine(mnext_any b g g _ wl hS.out.1 hl (by omega) 2 (by decide) (by decide)).mono ?_;rintro e wy ⟨⟨ry,rfl,hry⟩,hMy,hWy⟩;have hWy2:=Za (hS.out.2.trans hWy);replace hMy:=Za hMy;clear hWy hS;by_cases hy:ry=0
   ·subst hy;go_wp2_with fail;refine(mivar_any b g g _ wy hMy.out hl (by omega)).mono ?_;rintro e wz ⟨⟨sz,rfl,hsz⟩,hMz,hWz⟩;have hE:=Za (hfin.out _ (hWy2.out.trans hWz));clear hMz hWz hMy;go_wp2_with fail;go_ret;exact⟨⟨_,rfl,by simp only[ByteArray.size_append,bs_lit,List.size_toArray,List.length_cons,List.length_nil];omega⟩,hE.out⟩
   ·have cy:((ry:Int)==0)=false:=by simp;omega
    have hE:=Za (hfin.out _ hWy2.out);go_wp2_with fail;go_ret;exact⟨⟨_,rfl,by simp only[ByteArray.size_append,bs_lit,List.size_toArray,List.length_cons,List.length_nil];omega⟩,hE.out⟩
  ·have hj0:(0:Int)<j:=by omega
   have cS:=Za (st2 b g g _ wl hS.out.1 hl (by omega) 2 (by omega));have hu':=Za hu;go_wp2_with fail;refine cS.out.mono ?_;clear cS;rintro e w3 ⟨⟨s,rfl,hss⟩,hM3,hW3⟩;have hE:=Za (And.intro hM3 (hS.out.2.trans hW3));rw[show SM 2=11100 from rfl]at hss;clear hM3 hW3;go_wp2_with fail
   exact⟨⟨j-1,t+1,u++s,by omega,rfl,by congr 1;omega,by rw[ByteArray.size_append];have:=hu'.out;omega,Za ⟨hE.out.1.more (by rw[show SC 2=2720 from rfl];omega),hE.out.2⟩⟩,by simp[intOf];omega⟩
 ·have c2:(((kk:Int)%4)==2)=false:=by simp;omega
  go_wp2_with fail;refine(mnext_any b g g _ w1 hM1.out hl (by omega) 6 (by decide) (by decide)).mono ?_;rintro e w2 ⟨⟨r2,rfl,hr2⟩,hM2,hW2⟩;replace hW2:=Za (hW1.out.trans hW2);replace hM2:=Za hM2;go_wp2_with fail
  go_loopw [6,7] (fun s i wl=>∃(j t:Nat) (u:ByteArray),j+t=r2+1∧s= .string u∧i= .int .i64 j∧u.size≤100+t*11100∧Hid (Mk b g g (1+t*2720) wl∧Writes [some g] w0 wl)) (fun _ i _=>(intOf i).toNat)
  case atStart=>exact⟨r2+1,0,_,by omega,rfl,by congr 1;omega,by simp only[ByteArray.size_append,bs_lit,List.size_toArray,List.length_cons,List.length_nil];omega,Za ⟨hM2.out.more (by omega),hW2.out⟩⟩
  obtain⟨j,t,u,hjt,rfl,rfl,hu,hS⟩:=hrel;rename World=>wl;by_cases hj:j=0
  ·have hj0:¬(0:Int)<j:=by omega
   go_wp2_with fail;refine(mnext_any b g g _ wl hS.out.1 hl (by omega) 2 (by decide) (by decide)).mono ?_;rintro e wy ⟨⟨ry,rfl,hry⟩,hMy,hWy⟩;have hWy2:=Za (hS.out.2.trans hWy);replace hMy:=Za hMy;clear hWy hS;by_cases hy:ry=0
   ·subst hy;go_wp2_with fail;refine(mivar_any b g g _ wy hMy.out hl (by omega)).mono ?_;rintro e wz ⟨⟨sz,rfl,hsz⟩,hMz,hWz⟩;have hE:=Za (hfin.out _ (hWy2.out.trans hWz));clear hMz hWz hMy;go_wp2_with fail;go_ret;exact⟨⟨_,rfl,by simp only[ByteArray.size_append,bs_lit,List.size_toArray,List.length_cons,List.length_nil];omega⟩,hE.out⟩
   ·have cy:((ry:Int)==0)=false:=by simp;omega
    have hE:=Za (hfin.out _ hWy2.out);go_wp2_with fail;go_ret;exact⟨⟨_,rfl,by simp only[ByteArray.size_append,bs_lit,List.size_toArray,List.length_cons,List.length_nil];omega⟩,hE.out⟩
  ·have hj0:(0:Int)<j:=by omega
   have cS:=Za (st2 b g g _ wl hS.out.1 hl (by omega) kk (by omega));have hu':=Za hu;go_wp2_with fail;refine cS.out.mono ?_;clear cS;rintro e w3 ⟨⟨s,rfl,hss⟩,hM3,hW3⟩;have hE:=Za (And.intro hM3 (hS.out.2.trans hW3));rw[show SM 2=11100 from rfl]at hss;clear hM3 hW3;go_wp2_with fail
   exact⟨⟨j-1,t+1,u++s,by omega,rfl,by congr 1;omega,by rw[ByteArray.size_append];have:=hu'.out;omega,Za ⟨hE.out.1.more (by rw[show SC 2=2720 from rfl];omega),hE.out.2⟩⟩,by simp[intOf];omega⟩
end Go.Proofs.YtpndglghpojjkaaGreat
