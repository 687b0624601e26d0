/-
  12 texts of the proof, in one file: no condition.
-/
import Derived.Test.YtpndglghpojjkaaGreatPea12
set_option maxRecDepth 1000000
set_option maxHeartbeats 8000000
namespace Go.Proofs.YtpndglghpojjkaaGreat
open Go.RowKit Go.Deep
theorem block_of (p:Nat) (hp:p≤1) (hs:StOk p):BkOk p:=by
 intro b B g k w0 h hl hk kk hkk;have hX:=SC_le p;have hM0:=zi h;have hs':=zi hs;clear h hs
 have hp1:p=0∨p=1:=by omega
 obtain⟨X,hXe⟩:∃x,x=SC p:=⟨_,rfl⟩;obtain⟨Y,hYe⟩:∃x,x=SM p:=⟨_,rfl⟩
 have hsY:Y≤10000:=by rw[hYe];rcases hp1 with rfl|rfl<;>decide
 have hsX:X≤500:=by rw[hXe];rcases hp1 with rfl|rfl<;>decide
 rw[←hXe,←hYe];have hX':=zi hXe;have hY':=zi hYe;clear hp1 hX hXe hYe;go_enter Tryz.func153,Tryz.ntmps153;go_wp2_with fail;refine(mnext_any b B g _ w0 hM0.out hl (by omega) 4 (by decide) (by decide)).mono ?_;rintro e w1 ⟨⟨r,rfl,hr⟩,hM1,hW1⟩;have hM1':=zi hM1;have hW1':=zi hW1;clear hM1 hW1 hM0;go_wp2_with fail;go_loopw [7,8] (fun s i wl=>∃(j t:Nat) (u:ByteArray),j+t=r∧s= .string u∧i= .int .i64 j∧u.size≤2+t*Y∧Hid (Cln u∧Mk b B g (k+1+t*X) wl∧Writes [some g] w0 wl)) (fun _ i _=>(intOf i).toNat)
 case atStart=>exact⟨r,0,_,by omega,rfl,rfl,by rw[Nat.zero_mul];decide,zi ⟨by unfold Cln;decide,by rw[Nat.zero_mul];exact hM1'.out,hW1'.out⟩⟩
 obtain⟨j,t,u,hjt,rfl,rfl,hu,hS⟩:=hrel;rename World=>wl;have t1:t*X≤3*X:=Nat.mul_le_mul_right X (by omega);have t2:t*Y≤3*Y:=Nat.mul_le_mul_right Y (by omega);by_cases hj:j=0
 ·have hj0:¬(0:Int)<j:=by omega
  go_wp2_with fail;go_ret;exact⟨⟨_,rfl,by simp only[ByteArray.size_append,bs_lit,List.size_toArray,List.length_cons,List.length_nil];omega,Cln.app hS.out.1 (clnLit (by decide))⟩,hS.out.2.1.more (by omega),hS.out.2.2⟩
 ·have hj0:(0:Int)<j:=by omega
  have cS:=zi (hs'.out b B g _ wl hS.out.2.1 hl (by omega) kk hkk);have hu':=zi hu;have e1:=zi (show(t+1)*X=t*X+X from Nat.succ_mul t X);have e2:=zi (show(t+1)*Y=t*Y+Y from Nat.succ_mul t Y);go_wp2_with fail;refine cS.out.mono ?_;clear cS;rintro e w3 ⟨⟨s,rfl,hss,hqs⟩,hM3,hW3⟩;rw[←hY'.out]at hss;rw[←hX'.out]at hM3;have hE:=zi (And.intro (Cln.app hS.out.1 hqs) (And.intro hM3 (hS.out.2.2.trans hW3)));clear hM3 hW3 hqs;go_wp2_with fail;exact⟨⟨j-1,t+1,u++s,by omega,rfl,by congr 1;omega,by rw[e2.out,ByteArray.size_append];have:=hu'.out;omega,zi ⟨hE.out.1,by rw[e1.out];exact hE.out.2.1.more (by omega),hE.out.2.2⟩⟩,by simp[intOf];omega⟩
theorem st0:StOk 0:=mstmt_step 0 (by decide) fun p h=>absurd h (by omega)
theorem st1:StOk 1:=mstmt_step 1 (by decide) fun p h=>(show p=0 by omega)▸block_of 0 (by decide) st0
theorem st2:StOk 2:=mstmt_step 2 (by decide) fun p h=>(show p=1 by omega)▸block_of 1 (by decide) st1
def TxOk (s:ByteArray):Prop:=∃h l u:ByteArray,hdOkB h=true∧(l=⟨#[32,123,32,118,97,114,32,97,59,32,118,97,114,32,98,59,32,112,116,114,32,113,59,32]⟩∨l=⟨#[32,123,32,118,97,114,32,97,59,32,118,97,114,32,98,59,32,118,97,114,32,120,59,32,112,116,114,32,113,59,32]⟩)∧Cln u∧s=h++l++u
theorem mtext_any (b:List UInt8) (w:World) (A:Option Addr) (c:Nat) (hb:Bytes w w.heap.size A b) (hl:b.length≤100000) (kk:Nat) (hkk:kk<4):
  Calls Tryz.prog 50 #[.int .i64 kk,.slice A b.length c] w fun e w'=>(∃s:ByteArray,e= .returned (.string s)∧s.size≤100000∧TxOk s)∧Below w.heap.size w w':=by
 have hbn:=below_new w (.cells #[.slice A b.length c,.int .i64 0,.int .i64 25] 162);have hH:=Holds.new w 162 #[.slice A b.length c,.int .i64 0,.int .i64 25];have hM:Mk b w.heap.size w.heap.size 0 (w.alloc (.cells #[.slice A b.length c,.int .i64 0,.int .i64 25] 162)):=⟨A,c,0,25,⟨hH,Row.below hb hbn,Nat.le_refl _⟩,by omega,by omega,by omega⟩;obtain⟨w0,hw0⟩:∃z,z=w.alloc (.cells #[.slice A b.length c,.int .i64 0,.int .i64 25] 162):=⟨_,rfl⟩;obtain⟨g,hg⟩:∃z,z=w.heap.size:=⟨_,rfl⟩;obtain⟨L,hL⟩:∃z,z=b.length:=⟨_,rfl⟩;rw[←hw0]at hbn hM;rw[←hg]at hM;have hfin:Hid (∀w',Writes [some g] w0 w'→Below w.heap.size w w'):=zi fun w' h=>hbn.trans (h.below hbn.size fun k hk=>by simp at hk;omega);have hM0:=zi hM;have hW0:=zi (Writes.refl [some g] w0);have hfo:=zi hw0.symm;have hgo:=zi hg.symm;rw[←hL]at hfo⊢;have hL':=zi hL;clear hbn hH hM hw0 hg hb hL;go_enter Tryz.func50,Tryz.ntmps50;go_upto_region 2 with(fail);rw[hfo.out,hgo.out];clear hfo hgo;go_wp2_with fail;refine(mhead_any w0 kk).mono ?_;rintro e w1 ⟨⟨s1,rfl,hs1,hqh1⟩,hb1⟩;have hM1:=zi (hM0.out.below hb1)
 have hW1:=zi (hW0.out.trans (Writes.of_below hb1 _));clear hb1 hM0 hW0;by_cases hk2:kk=2
 ·subst hk2;go_wp2_with fail;refine(mhead_any w1 2).mono ?_;rintro e w2 ⟨⟨s2,rfl,hs2,hqh2⟩,hb2⟩;have hM2:=zi (hM1.out.below hb2);have hW2:=zi (hW1.out.trans (Writes.of_below hb2 _));clear hb2 hM1 hW1;go_wp2_with fail;refine(mnext_any b g g _ w2 hM2.out hl (by omega) 6 (by decide) (by decide)).mono ?_;rintro e w3 ⟨⟨r3,rfl,hr3⟩,hM3,hW3⟩;replace hW3:=zi (hW2.out.trans hW3);replace hM3:=zi hM3;go_wp2_with fail;go_loopw [6,7] (fun s i wl=>∃(j t:Nat) (u:ByteArray),j+t=r3+1∧s= .string u∧i= .int .i64 j∧u.size≤100+t*11100∧Hid ((∃z,u=(s2++(⟨#[32,123,32,118,97,114,32,97,59,32,118,97,114,32,98,59,32,118,97,114,32,120,59,32,112,116,114,32,113,59,32]⟩:ByteArray))++z∧Cln z)∧Mk b g g (1+t*2720) wl∧Writes [some g] w0 wl)) (fun _ i _=>(intOf i).toNat)
  case atStart=>exact⟨r3+1,0,_,by omega,rfl,by congr 1;omega,by simp only[ByteArray.size_append,bs_lit,List.size_toArray,List.length_cons,List.length_nil];omega,zi ⟨⟨⟨#[]⟩,cat_nil_ _,by unfold Cln;decide⟩,hM3.out.more (by omega),hW3.out⟩⟩
  obtain⟨j,t,u,hjt,rfl,rfl,hu,hS⟩:=hrel;rename World=>wl;by_cases hj:j=0
  ·have hj0:¬(0:Int)<j:=by omega
   go_wp2_with fail;refine(mnext_any b g g _ wl hS.out.2.1 hl (by omega) 2 (by decide) (by decide)).mono ?_;rintro e wy ⟨⟨ry,rfl,hry⟩,hMy,hWy⟩;have hWy2:=zi (hS.out.2.2.trans hWy);obtain⟨z,huz,hqz⟩:=hS.out.1;have hz:=zi (And.intro huz hqz);replace hMy:=zi hMy;clear hWy hS huz hqz;by_cases hy:ry=0
   ·subst hy;go_wp2_with fail;refine(mivar_any b g g _ wy hMy.out hl (by omega)).mono ?_;rintro e wz ⟨⟨sz,rfl,hsz,hqz⟩,hMz,hWz⟩;have hE:=zi (hfin.out _ (hWy2.out.trans hWz));have hqz2:=zi hqz;clear hMz hWz hMy hqz;go_wp2_with fail;go_ret;exact⟨⟨_,rfl,by simp only[ByteArray.size_append,bs_lit,List.size_toArray,List.length_cons,List.length_nil];omega,⟨_,_,z++⟨#[114,101,116,117,114,110,32]⟩++sz++⟨#[59,32]⟩++⟨#[125]⟩,hqh2,.inr rfl,by have:=hz.out.2;have:=hqz2.out;repeat' first|assumption|with_reducible refine Cln.app ?_ ?_|exact clnLit (by decide),by rw[hz.out.1];simp only[ByteArray.append_assoc]⟩⟩,hE.out⟩
   ·have cy:((ry:Int)==0)=false:=by simp;omega
    have hE:=zi (hfin.out _ hWy2.out);go_wp2_with fail;go_ret;exact⟨⟨_,rfl,by simp only[ByteArray.size_append,bs_lit,List.size_toArray,List.length_cons,List.length_nil];omega,⟨_,_,z++⟨#[125]⟩,hqh2,.inr rfl,hz.out.2.app (clnLit (by decide)),by rw[hz.out.1];simp only[ByteArray.append_assoc]⟩⟩,hE.out⟩
  ·have hj0:(0:Int)<j:=by omega
   have cS:=zi (st2 b g g _ wl hS.out.2.1 hl (by omega) 2 (by omega));have hu':=zi hu;go_wp2_with fail;refine cS.out.mono ?_;clear cS;rintro e w3 ⟨⟨s,rfl,hss,hqs⟩,hM3,hW3⟩;obtain⟨z,huz,hqz⟩:=hS.out.1;have hz:=zi (show u++s=(s2++(⟨#[32,123,32,118,97,114,32,97,59,32,118,97,114,32,98,59,32,118,97,114,32,120,59,32,112,116,114,32,113,59,32]⟩:ByteArray))++(z++s)∧Cln (z++s)from⟨by rw[huz];simp only[ByteArray.append_assoc],hqz.app hqs⟩);have hE:=zi (And.intro hM3 (hS.out.2.2.trans hW3));rw[show SM 2=11100 from rfl]at hss;clear hM3 hW3 huz hqz hqs;go_wp2_with fail;exact⟨⟨j-1,t+1,u++s,by omega,rfl,by congr 1;omega,by rw[ByteArray.size_append];have:=hu'.out;omega,zi ⟨⟨z++s,hz.out⟩,hE.out.1.more (by rw[show SC 2=2720 from rfl];omega),hE.out.2⟩⟩,by simp[intOf];omega⟩
 ·have c2:(((kk:Int)%4)==2)=false:=by simp;omega
  go_wp2_with fail;refine(mnext_any b g g _ w1 hM1.out hl (by omega) 6 (by decide) (by decide)).mono ?_;rintro e w2 ⟨⟨r2,rfl,hr2⟩,hM2,hW2⟩;replace hW2:=zi (hW1.out.trans hW2);replace hM2:=zi hM2;go_wp2_with fail;go_loopw [6,7] (fun s i wl=>∃(j t:Nat) (u:ByteArray),j+t=r2+1∧s= .string u∧i= .int .i64 j∧u.size≤100+t*11100∧Hid ((∃z,u=(s1++(⟨#[32,123,32,118,97,114,32,97,59,32,118,97,114,32,98,59,32,112,116,114,32,113,59,32]⟩:ByteArray))++z∧Cln z)∧Mk b g g (1+t*2720) wl∧Writes [some g] w0 wl)) (fun _ i _=>(intOf i).toNat)
  case atStart=>exact⟨r2+1,0,_,by omega,rfl,by congr 1;omega,by simp only[ByteArray.size_append,bs_lit,List.size_toArray,List.length_cons,List.length_nil];omega,zi ⟨⟨⟨#[]⟩,cat_nil_ _,by unfold Cln;decide⟩,hM2.out.more (by omega),hW2.out⟩⟩
  obtain⟨j,t,u,hjt,rfl,rfl,hu,hS⟩:=hrel;rename World=>wl;by_cases hj:j=0
  ·have hj0:¬(0:Int)<j:=by omega
   go_wp2_with fail;refine(mnext_any b g g _ wl hS.out.2.1 hl (by omega) 2 (by decide) (by decide)).mono ?_;rintro e wy ⟨⟨ry,rfl,hry⟩,hMy,hWy⟩;have hWy2:=zi (hS.out.2.2.trans hWy);obtain⟨z,huz,hqz⟩:=hS.out.1;have hz:=zi (And.intro huz hqz);replace hMy:=zi hMy;clear hWy hS huz hqz;by_cases hy:ry=0
   ·subst hy;go_wp2_with fail;refine(mivar_any b g g _ wy hMy.out hl (by omega)).mono ?_;rintro e wz ⟨⟨sz,rfl,hsz,hqz⟩,hMz,hWz⟩;have hE:=zi (hfin.out _ (hWy2.out.trans hWz));have hqz2:=zi hqz;clear hMz hWz hMy hqz;go_wp2_with fail;go_ret;exact⟨⟨_,rfl,by simp only[ByteArray.size_append,bs_lit,List.size_toArray,List.length_cons,List.length_nil];omega,⟨_,_,z++⟨#[114,101,116,117,114,110,32]⟩++sz++⟨#[59,32]⟩++⟨#[125]⟩,hqh1,.inl rfl,by have:=hz.out.2;have:=hqz2.out;repeat' first|assumption|with_reducible refine Cln.app ?_ ?_|exact clnLit (by decide),by rw[hz.out.1];simp only[ByteArray.append_assoc]⟩⟩,hE.out⟩
   ·have cy:((ry:Int)==0)=false:=by simp;omega
    have hE:=zi (hfin.out _ hWy2.out);go_wp2_with fail;go_ret;exact⟨⟨_,rfl,by simp only[ByteArray.size_append,bs_lit,List.size_toArray,List.length_cons,List.length_nil];omega,⟨_,_,z++⟨#[125]⟩,hqh1,.inl rfl,hz.out.2.app (clnLit (by decide)),by rw[hz.out.1];simp only[ByteArray.append_assoc]⟩⟩,hE.out⟩
  ·have hj0:(0:Int)<j:=by omega
   have cS:=zi (st2 b g g _ wl hS.out.2.1 hl (by omega) kk (by omega));have hu':=zi hu;go_wp2_with fail;refine cS.out.mono ?_;clear cS;rintro e w3 ⟨⟨s,rfl,hss,hqs⟩,hM3,hW3⟩;obtain⟨z,huz,hqz⟩:=hS.out.1;have hz:=zi (show u++s=(s1++(⟨#[32,123,32,118,97,114,32,97,59,32,118,97,114,32,98,59,32,112,116,114,32,113,59,32]⟩:ByteArray))++(z++s)∧Cln (z++s)from⟨by rw[huz];simp only[ByteArray.append_assoc],hqz.app hqs⟩);have hE:=zi (And.intro hM3 (hS.out.2.2.trans hW3));rw[show SM 2=11100 from rfl]at hss;clear hM3 hW3 huz hqz hqs;go_wp2_with fail;exact⟨⟨j-1,t+1,u++s,by omega,rfl,by congr 1;omega,by rw[ByteArray.size_append];have:=hu'.out;omega,zi ⟨⟨z++s,hz.out⟩,hE.out.1.more (by rw[show SC 2=2720 from rfl];omega),hE.out.2⟩⟩,by simp[intOf];omega⟩
theorem strV_back (s:ByteArray):∃u:List UInt8,s=strV u:=⟨s.data.toList,by simp[strV]⟩
def FnGot (w:World) (e:Ending) (w':World):Prop:=∃r A1 A2 A3 n1 n2 n3 c1 c2 c3,e= .returned (.agg #[.string (strV r.nm),.slice A1 n1 c1,.slice A2 n2 c2,.slice A3 n3 c3])∧FnAt w' Evr r (.slice A1 n1 c1) (.slice A2 n2 c2) (.slice A3 n3 c3)∧Below w.heap.size w w'∧(r=Fnc.none∨∃t:ByteArray,TxOk t∧Told t.data.toList r)
theorem fn_any (b:List UInt8) (w:World) (A:Option Addr) (c:Nat) (hb:Bytes w w.heap.size A b) (hl:b.length≤100000) (kk:Nat) (hkk:kk<4):
  Calls Tryz.prog 13 #[.int .i64 kk,.slice A b.length c] w (FnGot w):=by
 have hb0:=below_new w (.cells zero4 26);have hH0:=Holds.new w 26 zero4;have hby:=Row.more (Row.below hb hb0) hb0.size;obtain⟨w0,hw0⟩:∃y,y=w.alloc (.cells zero4 26):=⟨_,rfl⟩;obtain⟨gR,hgR⟩:∃y,y=w.heap.size:=⟨_,rfl⟩;rw[←hw0]at hb0 hH0 hby;rw[←hgR]at hH0;have hB0:=zi hb0;have hR0:=zi hH0;have hby':=zi (show Bytes w0 w0.heap.size A b from hby)
 have hgl:w.heap.size≤gR:=by omega
 have hfo:Hid (w.alloc (.cells #[.string ⟨#[]⟩,.slice none 0 0,.slice none 0 0,.slice none 0 0] 26)=w0):=zi (by rw[hw0];rfl);have hgo:=zi hgR.symm;obtain⟨L,hL⟩:∃y,y=b.length:=⟨_,rfl⟩;rw[←hL];have hL':=zi hL;clear hb0 hH0 hw0 hgR hby hb hL;go_enter Tryz.func13,Tryz.ntmps13;go_wp2_with fail;rw[hfo.out,hgo.out];refine(mname_any w0 kk).mono ?_;rintro e w1 ⟨⟨s,rfl,hs,-⟩,hb1⟩;have cT:=mtext_any b w1 A c (Row.more (Row.below hby'.out hb1) hb1.size) hl kk hkk;rw[←hL'.out]at cT;replace cT:=zi cT;have hB1:=zi (hB0.out.trans (hb1.mono hB0.out.size));have hR1:=zi (hR0.out.below hb1 hR0.out.lt);clear hb1 hfo hgo;go_wp2_with fail;refine cT.out.mono ?_;clear cT;rintro e w2 ⟨⟨t,rfl,ht,htx⟩,hb2⟩;have hB2:=hB1.out.trans (hb2.mono hB1.out.size);have hR2:=hR1.out.below hb2 hR1.out.lt;obtain⟨u,rfl⟩:=strV_back s;rw[strV_size]at hs;have hb3:=below_new w2 (.cells #[.string (strV u),.string t] 102);have hH3:=Holds.new w2 102 #[.string (strV u),.string t];obtain⟨w3,hw3⟩:∃y,y=w2.alloc (.cells #[.string (strV u),.string t] 102):=⟨_,rfl⟩;obtain⟨g3,hg3⟩:∃y,y=w2.heap.size:=⟨_,rfl⟩;rw[←hw3]at hb3 hH3;rw[←hg3]at hH3
 have cP:=zi (program_one w3 g3 u t hs ht (hH3.cell 0) (hH3.cell 1));have hB3:=zi (hB2.trans (hb3.mono hB2.size));have hR3:=zi (hR2.below hb3 hR2.lt);have hfo:=zi hw3.symm;have hgo:=zi hg3.symm;clear hb2 hB2 hR2 hb3 hH3 hw3 hg3 hB1 hR1 hB0 hR0 hby';go_wp2_with fail;rw[hfo.out,hgo.out];refine cP.out.mono ?_;clear cP hfo hgo;rintro e w4 ⟨v,rfl,hF,hb4⟩;have hB4:=hB3.out.trans (hb4.mono hB3.out.size);have hR4:=hR3.out.below hb4 hR3.out.lt;obtain⟨An,nn,cn,rfl⟩:=hF.slice;have hb5:=below_new w4 (.cells #[.slice none 0 0,.slice none 0 0,.slice An nn cn] 97);have hH5:=Holds.new w4 97 #[.slice none 0 0,.slice none 0 0,.slice An nn cn];obtain⟨w5,hw5⟩:∃y,y=w4.alloc (.cells #[.slice none 0 0,.slice none 0 0,.slice An nn cn] 97):=⟨_,rfl⟩;obtain⟨g5,hg5⟩:∃y,y=w4.heap.size:=⟨_,rfl⟩;rw[←hw5]at hb5 hH5;rw[←hg5]at hH5;have hB5:=hB4.trans (hb5.mono hB4.size);have hR5:=hR4.below hb5 hR4.lt;have hF5:=hF.below hb5;have hfo:=zi hw5.symm;have hgo:=zi hg5.symm;have p2:w5.cell? ⟨g5,2,none⟩=some (.slice An nn cn):=hH5.cell 2;have pl:=hH5.lt;have rl:=hR5.lt
 have r0:w5.cell? ⟨gR,0,none⟩=some (.string ⟨#[]⟩):=hR5.cell 0;have r1:w5.cell? ⟨gR,1,none⟩=some (.slice none 0 0):=hR5.cell 1;have r2:w5.cell? ⟨gR,2,none⟩=some (.slice none 0 0):=hR5.cell 2;have r3:w5.cell? ⟨gR,3,none⟩=some (.slice none 0 0):=hR5.cell 3;have z0:=hR5.frozen 0;have z1:=hR5.frozen 1;have z2:=hR5.frozen 2;have z3:=hR5.frozen 3;have hN:=zi (NoN.of rfl rfl rfl rfl hR5);have hR5':=zi hR5;have hB5':=zi hB5;clear hw5 hg5 hb4 hB4 hR4 hF hb5 hH5 hB5 hR5 hB3 hR3;rcases hF5 with h| ⟨q,cq,r,A1,A2,A3,n1,n2,n3,c1,c2,c3,h,hr,hF,hT⟩
 ·injection h with h1 h2 h3;subst h1 h2 h3;go_upto_region 2 with(fail);rw[hfo.out,hgo.out];clear hfo hgo;go_wp2_with fail;have hW:=put4_writes w5 gR (.string ⟨#[]⟩) (.slice none 0 0) (.slice none 0 0) (.slice none 0 0);refine ret_cell1 rfl rfl rfl (hR5'.out.put4 _ _ _ _) Tryz.underlying26 Tryz.sFunc ?_;exact⟨Fnc.none,none,none,none,0,0,0,0,0,0,rfl,FnAt.none_ _ _,hB5'.out.trans (hW.below hB5'.out.size fun k hk=>by simp at hk;omega),.inl rfl⟩
 ·injection h with h1 h2 h3;subst h1 h2 h3;obtain⟨qb,qo,e1,hqb,hqc⟩:=hr (by simp);injection e1 with e1;injection e1 with e1 e2;subst e1 e2;have q0:w5.cell? ⟨q,0,none⟩=some (.string (strV r.nm)):=hqc 0 _ rfl;have q1:w5.cell? ⟨q,1,none⟩=some (.slice A1 n1 c1):=hqc 1 _ rfl;have q2:w5.cell? ⟨q,2,none⟩=some (.slice A2 n2 c2):=hqc 2 _ rfl;have q3:w5.cell? ⟨q,3,none⟩=some (.slice A3 n3 c3):=hqc 3 _ rfl;have hF':=zi hF;have hT':=zi hT;clear hqc hr hF hT;go_upto_region 2 with(fail);rw[hfo.out,hgo.out];clear hfo hgo;go_wp2_with fail;have hW:=put4_writes w5 gR (.string (strV r.nm)) (.slice A1 n1 c1) (.slice A2 n2 c2) (.slice A3 n3 c3);refine ret_cell1 rfl rfl rfl (hR5'.out.put4 _ _ _ _) Tryz.underlying26 Tryz.sFunc ?_;exact⟨r,A1,A2,A3,n1,n2,n3,c1,c2,c3,rfl,hF'.out.stored hN.out hW,hB5'.out.trans (hW.below hB5'.out.size fun k hk=>by simp at hk;omega),.inr ⟨t,htx,hT'.out⟩⟩
end Go.Proofs.YtpndglghpojjkaaGreat
namespace Go.Proofs.YtpndglghpojjkaaGreat
def kwAt (l:List UInt8):Bool:=l.take 3== [118,97,114]||l.take 3== [112,116,114]
def occK:List UInt8→Nat
 | []=>0
 |c::r=>(if kwAt (c::r)=true then 1 else 0)+occK r
def kwT (t:Tok):Bool:=t.t== [118,97,114]||t.t== [112,116,114]
theorem occ_app:∀(a b:List UInt8),occK (a++b)≤occK a+occK b+min 2 a.length
 | [],_=>by simp[occK]
 | [c],b=>by
  simp only[List.cons_append,List.nil_append,occK,List.length_cons,List.length_nil];split<;>omega
 | [c,d],b=>by
  simp only[List.cons_append,List.nil_append,occK,List.length_cons,List.length_nil]
  repeat' split
  all_goals omega
 |c::d::e::r,b=>by
  have h:=occ_app (d::e::r) b
  have e1:kwAt (c::d::e::(r++b))=kwAt (c::d::e::r):=by simp[kwAt]
  simp only[List.cons_append,occK,List.length_cons]at h⊢;rw[e1];omega
theorem occ_drop:∀(n:Nat) (l:List UInt8),occK (l.drop n)≤occK l
 |0,_=>by simp
 |_+1,[]=>by simp
 |n+1,c::r=>by have:=occ_drop n r;simp only[List.drop_succ_cons,occK];omega
theorem kw_take {c:UInt8} {r:List UInt8} {n k i:Nat} (h:kwT ⟨k,(c::r).take n,i⟩=true):kwAt (c::r)=true:=by
 have key:∀w:List UInt8,w.length=3→(c::r).take n=w→(c::r).take 3=w:=fun w hw e=>by
  have h3:((c::r).take n).length=3:=by rw[e,hw]
  rw[List.length_take]at h3;rw[←e,show(c::r).take 3=((c::r).take n).take 3 by rw[List.take_take];congr 1;omega,List.take_of_length_le (by rw[e,hw];exact Nat.le_refl 3)]
 unfold kwT at h;unfold kwAt;simp only[Bool.or_eq_true,beq_iff_eq]at h⊢;exact h.imp (key _ rfl) (key _ rfl)
theorem kw_step {c:UInt8} {r:List UInt8} {n k i:Nat} {out:List Tok} (hn:1≤n):((out++ [(⟨k,(c::r).take n,i⟩:Tok)]).filter kwT).length+occK ((c::r).drop n)≤(out.filter kwT).length+occK (c::r):=by
 obtain⟨m,rfl⟩:∃m,n=m+1:=⟨n-1,by omega⟩;have h1:=occ_drop m r;rw[List.filter_append,List.length_append,List.drop_succ_cons];simp only[occK];by_cases h:kwT ⟨k,(c::r).take (m+1),i⟩=true
 ·rw[List.filter_cons_of_pos h,if_pos (kw_take h)];simp;omega
 ·rw[List.filter_cons_of_neg h];simp;omega
theorem lexL_kw:∀(f:Nat) (l:List UInt8) (i:Nat) (out:List Tok),((lexL f l i out).1.filter kwT).length≤(out.filter kwT).length+occK l
 |0,_,_,_=>by simp[lexL]
 |f+1,l,i,out=>by
  unfold lexL
  cases l with
  |nil=>simp
  |cons c r=>
   have no:∀x:Nat×Nat,((([],x):List Tok×Nat×Nat).1.filter kwT).length≤(out.filter kwT).length+occK (c::r):=fun _=>by simp
   simp only;split
   ·have:=lexL_kw f r (i+1) out;simp only[occK];omega
   ·split
    ·exact Nat.le_trans (lexL_kw f _ _ out) (Nat.add_le_add_left (occ_drop _ _) _)
    ·split
     ·rename_i hl;split
      ·exact no _
      ·exact Nat.le_trans (lexL_kw f _ _ _) (kw_step (by rw[span_cons_yes (by simp[hl])];omega))
     ·split
      ·rename_i hd;split
       ·exact no _
       ·repeat' split
        all_goals first|exact no _|exact Nat.le_trans (lexL_kw f _ _ _) (kw_step (by rw[span_cons_yes hd];omega))
      ·split
       ·exact Nat.le_trans (lexL_kw f _ _ _) (kw_step (by decide))
       ·split
        ·exact Nat.le_trans (lexL_kw f r _ _) (kw_step (n:=1) (Nat.le_refl _))
        ·exact no _
section
variable {C:PC} {s:PS}
def cntK (C:PC) (i:Nat):Nat:=((C.tk.drop i).filter kwT).length
theorem cnt_anti {i j:Nat} (h:i≤j):cntK C j≤cntK C i:=((List.drop_sublist_drop_left C.tk h).filter kwT).length_le
theorem cnt_step {t:List UInt8} (h:isF C t s=true) (ht:t= [118,97,114]∨t= [112,116,114]):1+cntK C (s.i+1)≤cntK C s.i:=by
 unfold isF at h;simp only[Bool.and_eq_true]at h
 cases hx:C.tk[s.i]? with
 |none=>rw[hx]at h;simp at h
 |some x=>
  rw[hx]at h;simp only[Bool.and_eq_true,beq_iff_eq]at h;obtain⟨hlt,e⟩:=List.getElem?_eq_some_iff.1 hx;unfold cntK;rw[List.drop_eq_getElem_cons hlt,List.filter_cons_of_pos (by rw[e];unfold kwT;rw[h.2.2];rcases ht with rfl|rfl<;>rfl)];simp;omega
theorem moreV_lenM (l:List Vr) (p:Bool) (m:Nat) (s:PS):(moreV C l p m s).1.length≤l.length+1:=by
 unfold moreV;split<;>simp
theorem localsL_len:∀(f:Nat) (l:List Vr) (s:PS),(localsL C f l s).1.length≤l.length+cntK C s.i
 |0,l,s=>by simp[localsL]
 |f+1,l,s=>by
  unfold localsL;split
  ·rename_i h;simp only[Bool.or_eq_true]at h;have h1:=localsL_len f (moreV C l (isF C [112,116,114] s) 20 s.next).1 (wantF C [59] (moreV C l (isF C [112,116,114] s) 20 s.next).2);have h2:=moreV_lenM (C:=C) l (isF C [112,116,114] s) 20 s.next;have h3:=((moreV_stp (C:=C) l (isF C [112,116,114] s) 20 s.next).trans (Stp.want [59] _)).i1;have h4:cntK C _≤cntK C (s.i+1):=cnt_anti h3;have h5:1+cntK C (s.i+1)≤cntK C s.i:=h.elim (fun h=>cnt_step h (.inl rfl)) fun h=>cnt_step h (.inr rfl);omega
  ·simp
theorem paramsL_len:∀(f:Nat) (l:List Vr) (s:PS),l.length≤6∨(l.length≤7∧s.e≠0)→(paramsL C f l s).1.length≤7
 |0,l,s,h=>by simp only[paramsL];omega
 |f+1,l,s,h=>by
  unfold paramsL;split
  ·simp only;omega
  ·rename_i he
   have hl:l.length≤6:=by omega
   obtain⟨x,hx⟩:∃x,x=takeF C [42] s:=⟨_,rfl⟩;rw[←hx]
   have hm:(moreV C l x.1 6 x.2).1.length≤6∨((moreV C l x.1 6 x.2).1.length≤7∧(moreV C l x.1 6 x.2).2.e≠0):=by
    unfold moreV;split
    ·exact .inl hl
    ·rename_i h6;by_cases hn:namedF C x.2=true
     ·refine .inl ?_;rw[hn]at h6;simp at h6⊢;omega
     ·refine .inr ⟨by simp;omega,?_⟩;unfold nameF;rw[if_neg hn];exact failF_e 51 (by decide) _
   split
   ·exact hm.elim (fun h=>by simp only;omega) fun h=>h.1
   ·exact paramsL_len f _ _ (hm.imp id fun h=>⟨h.1,(Stp.want [44] _).er h.2⟩)
end
theorem funcF_few (l:List UInt8):(funcF l).1.ps.length≤7∧(funcF l).1.ls.length≤occK l:=by
 unfold funcF;split
 ·exact⟨Nat.zero_le _,Nat.zero_le _⟩
 ·unfold funcP;split
  ·exact⟨Nat.zero_le _,Nat.zero_le _⟩
  ·refine⟨?_,?_⟩
   ·show(psF _).1.length≤7;unfold psF paramsF;split
    ·exact Nat.zero_le _
    ·exact paramsL_len _ _ _ (.inl (Nat.zero_le _))
   ·have h1:=localsL_len (C:=⟨(lexF l).1,l.length⟩) ((lexF l).1.length+1) [] (bodyAt ⟨(lexF l).1,l.length⟩ (psF ⟨(lexF l).1,l.length⟩).2);have h2:cntK ⟨(lexF l).1,l.length⟩ _≤cntK ⟨(lexF l).1,l.length⟩ 0:=cnt_anti (Nat.zero_le (bodyAt ⟨(lexF l).1,l.length⟩ (psF ⟨(lexF l).1,l.length⟩).2).i)
    have h3:cntK ⟨(lexF l).1,l.length⟩ 0≤occK l:=by
     unfold cntK lexF;split
     ·simp
     ·exact Nat.le_trans (lexL_kw _ _ _ _) (by simp)
    show(localsL _ _ _ _).1.length≤occK l;simp only[List.length_nil]at h1;exact Nat.le_trans h1 (by omega)
theorem occ_clean:∀{l:List UInt8},vtrB l=false→occK l=0
 | [],_=>rfl
 |c::r,h=>by
  unfold vtrB at h;simp only[Bool.or_eq_false_iff,Bool.and_eq_false_iff,beq_eq_false_iff_ne,ne_eq]at h;obtain⟨⟨h1,h2⟩,h3⟩:=h
  have hk:kwAt (c::r)=false:=by
   unfold kwAt;simp only[Bool.or_eq_false_iff,beq_eq_false_iff_ne,ne_eq];refine⟨fun e=> ?_,fun e=> ?_⟩
   ·simp at e;exact h1 e.1
   ·match r,e,h3 with
    | [],e,_=>simp at e
    | [_],e,_=>simp at e
    |d::x::r',e,h3=>
     simp at e;obtain⟨-,rfl,rfl⟩:=e;unfold vtrB at h3;simp at h3
  simp only[occK];rw[hk,occ_clean h3];rfl
theorem tx_few {s:ByteArray} (h:TxOk s):occK s.data.toList≤6:=by
 obtain⟨hd,l,u,hh,hl,hu,rfl⟩:=h;have h1:=occ_app (hd.data.toList++l.data.toList) u.data.toList;rw[occ_clean (Cln.parts.1 hu).1]at h1
 have h2:occK (hd.data.toList++l.data.toList)≤4:=by unfold hdOkB at hh;simp only[List.any_cons,List.any_nil,Bool.or_eq_true,beq_iff_eq,Bool.false_eq_true,or_false]at hh;rcases hh with e|e|e|e<;>rcases hl with rfl|rfl<;>rw[←e]<;>decide
 rw[cat_list,cat_list];omega
theorem got_few {r:Fnc} (h:r=Fnc.none∨∃t:ByteArray,TxOk t∧Told t.data.toList r):r.ps.length≤7∧r.ls.length≤6:=by
 rcases h with rfl| ⟨t,ht,u,f,a,hf,hr⟩
 ·exact⟨by decide,by decide⟩
 ·have h1:=funcF_few t.data.toList;have h2:=tx_few ht;rw[hf]at h1;obtain⟨-,e,-⟩:=res_zero hr;subst e;exact⟨h1.1,Nat.le_trans h1.2 h2⟩
end Go.Proofs.YtpndglghpojjkaaGreat
namespace Go.Proofs.YtpndglghpojjkaaGreat
open Go.RowKit
def HdLet (x:List UInt8):Prop:=∃c r,x=c::r∧letC c=true
def WdOk (x:List UInt8):Prop:=HdLet x∧wordF x=false
theorem span_let {p:UInt8→Bool} {c:UInt8} {r:List UInt8} (h:p c=true) (hl:letC c=true):HdLet ((c::r).take (span_ p (c::r))):=by
 rw[span_cons_yes h,List.take_succ_cons];exact⟨c,_,rfl,hl⟩
theorem lexL_let:∀(f:Nat) (l:List UInt8) (i:Nat) (out:List Tok),(∀t∈out,t.k=0→HdLet t.t)→∀t∈(lexL f l i out).1,t.k=0→HdLet t.t
 |0,_,_,_,h=>h
 |f+1,l,i,out,h=>by
  have snoc:∀(x:Tok),(x.k=0→HdLet x.t)→∀t∈out++ [x],t.k=0→HdLet t.t:=fun x hx t ht=>by
   rcases List.mem_append.1 ht with h1|h1
   ·exact h t h1
   ·rw[List.mem_singleton.1 h1];exact hx
  have no:∀{p:Tok→Prop},∀t∈([]:List Tok),p t:=fun t h=>nomatch h;unfold lexL
  cases l with
  |nil=>exact h
  |cons c r=>
   simp only;split
   ·exact lexL_let f _ _ _ h
   ·split
    ·exact lexL_let f _ _ _ h
    ·split
     ·rename_i hl;split
      ·exact no
      ·exact lexL_let f _ _ _ (snoc _ fun _=>span_let (by simp[hl]) hl)
     ·split
      ·split
       ·exact no
       ·repeat' split
        all_goals first|exact no|exact lexL_let f _ _ _ (snoc ⟨1,_,_⟩ fun h=>absurd (show(1:Nat)=0 from h) (by decide))
      ·split
       ·exact lexL_let f _ _ _ (snoc ⟨2,_,_⟩ fun h=>absurd (show(2:Nat)=0 from h) (by decide))
       ·split
        ·exact lexL_let f _ _ _ (snoc ⟨2,_,_⟩ fun h=>absurd (show(2:Nat)=0 from h) (by decide))
        ·exact no
section
variable {C:PC}
theorem stp_e {s s2:PS} (h:Stp C s s2) (he:s2.e=0):s.e=0:=Classical.byContradiction fun h1=>h.er h1 he
theorem name_wd (hT:∀t∈C.tk,t.k=0→HdLet t.t) (s:PS) (he:(nameF C s).2.e=0):WdOk (nameF C s).1:=by
 unfold nameF at he⊢;split at he
 ·rename_i h;rw[if_pos h];unfold namedF at h;rw[Bool.and_eq_true]at h;have h2:=h.2
  cases hx:C.tk[s.i]? with
  |none=>rw[hx]at h2;simp at h2
  |some x=>
   rw[hx]at h2;simp only[Bool.and_eq_true,beq_iff_eq,Bool.not_eq_true']at h2;exact⟨hT x (List.mem_of_getElem? hx) h2.1,h2.2⟩
 ·exact absurd he (failF_e 51 (by decide) s)
theorem rest_e {s:PS} (h:(restF C s).e=0):s.e=0:=by
 unfold restF at h;split at h
 ·exact absurd h (failF_e 51 (by decide) _)
 ·exact h
def VsW (l:List Vr) (s:PS):Prop:=s.e=0→∀v∈l,WdOk v.nm
theorem VsW.post {l:List Vr} {s s2:PS} (h:VsW l s) (hs:Stp C s s2):VsW l s2:=fun he=>h (stp_e hs he)
theorem more_wd (hT:∀t∈C.tk,t.k=0→HdLet t.t) (l:List Vr) (p:Bool) (m:Nat) (s:PS) (h:VsW l s):VsW (moreV C l p m s).1 (moreV C l p m s).2:=by
 unfold moreV;split
 ·exact fun he=>absurd he (failF_e 53 (by decide) s)
 ·intro he v hv;rcases List.mem_append.1 hv with h1|h1
  ·exact h (stp_e (Stp.name s) he) v h1
  ·rw[List.mem_singleton.1 h1];exact name_wd hT s he
theorem params_wd (hT:∀t∈C.tk,t.k=0→HdLet t.t):∀(f:Nat) (l:List Vr) (s:PS),VsW l s→VsW (paramsL C f l s).1 (paramsL C f l s).2
 |0,_,_,h=>h
 |f+1,l,s,h=>by
  unfold paramsL;split
  ·exact h
  ·have hm:=more_wd hT l (takeF C [42] s).1 6 (takeF C [42] s).2 (h.post (Stp.take_ [42] s));split
   ·exact hm.post (Stp.is_ ‹_›)
   ·exact params_wd hT f _ _ (hm.post (Stp.want [44] _))
theorem locals_wd (hT:∀t∈C.tk,t.k=0→HdLet t.t):∀(f:Nat) (l:List Vr) (s:PS),VsW l s→VsW (localsL C f l s).1 (localsL C f l s).2
 |0,_,_,h=>h
 |f+1,l,s,h=>by
  unfold localsL;split
  ·rename_i hi
   have hn:Stp C s s.next:=by rw[Bool.or_eq_true]at hi;exact hi.elim Stp.is_ Stp.is_
   exact locals_wd hT f _ _ ((more_wd hT l _ 20 s.next (h.post hn)).post (Stp.want [59] _))
  ·exact h
end
theorem funcF_wd (l:List UInt8) (he:(funcF l).2.2=0):∀v∈(funcF l).1.ps++(funcF l).1.ls,WdOk v.nm:=by
 unfold funcF at he⊢;split at he
 ·exact absurd he ‹_›
 ·rename_i h0;rw[if_neg h0]
  have hT:∀t∈(lexF l).1,t.k=0→HdLet t.t:=by
   unfold lexF;split
   ·exact fun t h=>nomatch h
   ·exact lexL_let _ _ _ _ fun t h=>nomatch h
  unfold funcP at he⊢;by_cases h1:(restF ⟨(lexF l).1,l.length⟩ (bodyF ⟨(lexF l).1,l.length⟩).2).e≠0
  ·rw[if_pos h1]at he;simp only at he;exact absurd he h1
  ·rw[if_neg h1];obtain⟨C,hC⟩:∃C:PC,C=⟨(lexF l).1,l.length⟩:=⟨_,rfl⟩;rw[←hC]at h1⊢
   have hT:∀t∈C.tk,t.k=0→HdLet t.t:=by rw[hC];exact hT
   have e0:(bodyF C).2.e=0:=rest_e (Classical.byContradiction h1);have eb:bodyF C=stmtsD C 39 (lsF C).2:=rfl;rw[eb]at e0;have e1:(lsF C).2.e=0:=stp_e (stmtsD_stp 39 (lsF C).2) e0;have e2:(bodyAt C (psF C).2).e=0:=stp_e (localsL_stp (C:=C) (C.tk.length+1) [] (bodyAt C (psF C).2)) e1
   have e3:(psF C).2.e=0:=by
    unfold bodyAt at e2;split at e2
    ·rename_i h2;rw[Bool.and_eq_true]at h2;exact isF_e h2.1
    ·exact absurd e2 (failF_e 51 (by decide) _)
   intro v hv;rcases List.mem_append.1 hv with h2|h2
   ·refine(show VsW (psF C).1 (psF C).2 from ?_) e3 v h2;unfold psF paramsF;split
    ·exact fun _ v h=>nomatch h
    ·exact params_wd hT _ _ _ fun _ v h=>nomatch h
   ·exact(locals_wd hT _ [] _ fun _ v h=>nomatch h) e1 v h2
theorem strV_lst (x:List UInt8):nmB (strV x)=x:=by simp[nmB,strV]
theorem parN_keys:∀l:List Vr,(parN l).map kN=(l.filter fun v=> !v.ptr).map Vr.nm
 | []=>rfl
 |v::l=>by
  have ih:=parN_keys l;unfold parN at ih⊢;cases hp:v.ptr
  ·rw[List.filterMap_cons_some (b:=allN (strV v.nm)) (by simp[hp]),List.filter_cons_of_pos (by simp[hp]),List.map_cons,List.map_cons,ih];show nmB (strV v.nm)::_=_;rw[strV_lst]
  ·rw[List.filterMap_cons_none (by simp[hp]),List.filter_cons_of_neg (by simp[hp]),ih]
theorem locN_keys:∀l:List Vr,(locN l).map kN=(l.filter fun v=> !v.ptr).map Vr.nm
 | []=>rfl
 |v::l=>by
  have ih:=locN_keys l;unfold locN at ih⊢;cases hp:v.ptr
  ·rw[List.filterMap_cons_some (b:=zeroN (strV v.nm)) (by simp[hp]),List.filter_cons_of_pos (by simp[hp]),List.map_cons,List.map_cons,ih];show nmB (strV v.nm)::_=_;rw[strV_lst]
  ·rw[List.filterMap_cons_none (by simp[hp]),List.filter_cons_of_neg (by simp[hp]),ih]
theorem parP_keys (cs:List S):∀l:List Vr,(parP cs l).map kQ=(l.filter fun v=>v.ptr).map Vr.nm
 | []=>rfl
 |v::l=>by
  have ih:=parP_keys cs l;unfold parP at ih⊢;cases hp:v.ptr
  ·rw[List.filterMap_cons_none (by simp[hp]),List.filter_cons_of_neg (by simp[hp]),ih]
  ·rw[List.filterMap_cons_some (b:=(strV v.nm,⟨true,canon cs⟩)) (by simp[hp]),List.filter_cons_of_pos (by simp[hp]),List.map_cons,List.map_cons,ih];show nmB (strV v.nm)::_=_;rw[strV_lst]
theorem locP_keys:∀l:List Vr,(locP l).map kQ=(l.filter fun v=>v.ptr).map Vr.nm
 | []=>rfl
 |v::l=>by
  have ih:=locP_keys l;unfold locP at ih⊢;cases hp:v.ptr
  ·rw[List.filterMap_cons_none (by simp[hp]),List.filter_cons_of_neg (by simp[hp]),ih]
  ·rw[List.filterMap_cons_some (b:=(strV v.nm,⟨true,[]⟩)) (by simp[hp]),List.filter_cons_of_pos (by simp[hp]),List.map_cons,List.map_cons,ih];show nmB (strV v.nm)::_=_;rw[strV_lst]
theorem celN_keys (cs:List S):(celN cs).map kN=cs.map fun c=>64::c:=by
 unfold celN;rw[List.map_map];refine List.map_congr_left fun c _=> ?_;simp[kN,nmB,allN,atB,strV]
theorem WdOk.at_ {x:List UInt8} (h:WdOk x) (c:List UInt8):x≠64::c:=fun e=>by
 obtain⟨⟨a,r,h1,h2⟩,-⟩:=h;rw[e]at h1;injection h1 with h1;subst h1;exact absurd h2 (by decide)
theorem WdOk.ret {x:List UInt8} (h:WdOk x):x≠[114,101,116,117,114,110]:=fun e=>by
 have:=h.2;rw[e]at this;exact absurd this (by decide)
theorem ent_nodup {ps ls:List Vr} {cs:List S} (hw:∀v∈ps++ls,WdOk v.nm) (hd:(fNames (ps++ls)).Nodup) (hc:cs.Nodup):((entN ps ls cs).map fun x=>nmB x.nm).Nodup∧((entP ps ls cs).map fun q=>nmB q.1).Nodup:=by
 have hs:∀p:Vr→Bool,(((ps++ls).filter p).map Vr.nm).Nodup:=fun p=>hd.sublist ((List.filter_sublist).map _);constructor
 ·show((entN ps ls cs).map kN).Nodup
  have e:(entN ps ls cs).map kN=((ps++ls).filter fun v=> !v.ptr).map Vr.nm++((cs.map fun c=>64::c)++ [[114,101,116,117,114,110]]):=by unfold entN;rw[List.map_append,List.map_append,List.map_append,parN_keys,locN_keys,celN_keys,List.filter_append,List.map_append];simp only[List.append_assoc];rfl
  rw[e,List.nodup_append];refine⟨hs _,?_,?_⟩
  ·rw[List.nodup_append];refine⟨List.pairwise_map.2 (hc.imp fun h e=>h (by injection e)),by simp,fun a ha b hb=> ?_⟩;obtain⟨c,-,rfl⟩:=List.mem_map.1 ha;simp only[List.mem_singleton]at hb;subst hb
   exact fun e=>by injection e with e;exact absurd e (by decide)
  ·intro a ha b hb;obtain⟨v,hv,rfl⟩:=List.mem_map.1 ha;have hwv:=hw v (List.mem_filter.1 hv).1;rcases List.mem_append.1 hb with h1|h1
   ·obtain⟨c,-,rfl⟩:=List.mem_map.1 h1;exact hwv.at_ c
   ·simp only[List.mem_singleton]at h1;subst h1;exact hwv.ret
 ·show((entP ps ls cs).map kQ).Nodup
  have e:(entP ps ls cs).map kQ=((ps++ls).filter fun v=>v.ptr).map Vr.nm:=by unfold entP;rw[List.map_append,parP_keys,locP_keys,List.filter_append,List.map_append]
  rw[e];exact hs _
end Go.Proofs.YtpndglghpojjkaaGreat
namespace Go.Proofs.YtpndglghpojjkaaGreat
open Go.RowKit Go.Deep
def MemAt (w:World) (qi:List NRw) (qp:List (ByteArray×Pz)) (v:Value):Prop:=∃A1 c1 A2 c2 lp,v=memV A1 qi.length c1 A2 lp.length c2∧RowS w Evr A1 (qi.flatMap encN)∧RowS w Evr A2 (lp.flatMap encP)∧PtrsIn w lp qp
theorem MemAt.up {w w':World} {qi:List NRw} {qp:List (ByteArray×Pz)} {v:Value} (h:MemAt w qi qp v) (hb:Below w.heap.size w w'):MemAt w' qi qp v:=by
 obtain⟨A1,c1,A2,c2,lp,e,h1,h2,h3⟩:=h;exact⟨A1,c1,A2,c2,lp,e,h1.up hb,h2.up hb,h3.all fun _ _ h=>h.up hb⟩
theorem row_s {w:World} {B:Nat} {A:Option Addr} {vs:List Value} (h:Row w B A vs):RowS w Evr A vs:=fun hn=>by
 obtain⟨b,off,e,_,hc⟩:=h hn;exact⟨b,off,e,trivial,hc⟩
theorem refN_perm (ps ls:List Vr) (cs:List S):(refN ps ls cs).Perm (entN ps ls cs):=by
 unfold refN entN;refine(List.perm_append_comm).trans ?_;rw[List.append_assoc (parN ps),List.append_assoc (parN ps)];refine List.Perm.append_left _ ?_;refine(List.perm_append_comm).trans ?_;rw[List.append_assoc];refine List.Perm.append_left _ (List.perm_append_comm)
theorem refP_perm (ps ls:List Vr) (cs:List S):(refP ps ls cs).Perm (entP ps ls cs):=List.perm_append_comm
theorem nodup_inj {α β:Type} (f:α→β):∀{l:List α},(l.map f).Nodup→∀{a b:α},a∈l→b∈l→f a=f b→a=b
 |x::l,h,a,b,ha,hb,e=>by
  rw[List.map_cons,List.nodup_cons]at h;rcases List.mem_cons.1 ha with ea|ha'
  ·rcases List.mem_cons.1 hb with eb|hb'
   ·rw[ea,eb]
   ·exact absurd (by rw[←ea,e];exact List.mem_map_of_mem hb') h.1
  ·rcases List.mem_cons.1 hb with eb|hb'
   ·exact absurd (by rw[←eb,←e];exact List.mem_map_of_mem ha') h.1
   ·exact nodup_inj f h.2 ha' hb' e
theorem PtrAt.r {w:World} {B:Nat} {r:PRw} {q:ByteArray×Pz} (h:PtrAt w B r q):PtrR w r q:=by
 obtain⟨h1,h2,h3,h4⟩:=h;obtain⟨A,c,e,hr,-⟩:=own_rowA h4;injection e with e1 e2 e3;rw[e1.symm]at hr;exact⟨h1,h2,h3,hr⟩
theorem rows_told {w:World} {B:Nat} {E:List (ByteArray×Pz)}:∀{lp:List PRw},(∀r∈lp,∃p,PtrAt w B r (r.nm,p)∧(r.nm,p)∈E)→∃qs,PtrsIn w lp qs∧qs.map kQ=lp.map kP∧∀q∈qs,q∈E
 | [],_=>⟨[],trivial,rfl,fun _ h=>nomatch h⟩
 |r::lp,h=>by
  obtain⟨p,h1,h2⟩:=h r (List.mem_cons_self ..);obtain⟨qs,h3,h4,h5⟩:=rows_told fun x hx=>h x (List.mem_cons_of_mem _ hx);refine⟨(r.nm,p)::qs,⟨h1.r,h3⟩,by rw[List.map_cons,List.map_cons,h4];rfl,fun q hq=> ?_⟩;rcases List.mem_cons.1 hq with rfl|hq
  ·exact h2
  ·exact h5 q hq
theorem ent_mem {w0 w':World} {ps ls:List Vr} {cs:List S} {e:Ending} (h:EntPost w0 ps ls cs e w') (hN:((entN ps ls cs).map fun x=>nmB x.nm).Nodup) (hP:((entP ps ls cs).map fun q=>nmB q.1).Nodup):
  (∃v,e= .returned v∧MemAt w' (setAll kN (refN ps ls cs)) (setAll kQ (refP ps ls cs)) v)∧Below w0.heap.size w0 w':=by
 obtain⟨A1,c1,li,A2,c2,lp,B,rfl,h1,h2,h3,h4,h5,h6,h7,h8⟩:=h;have n1:((refN ps ls cs).map kN).Nodup:=((refN_perm ps ls cs).map kN).nodup_iff.2 hN;have n2:((refP ps ls cs).map kQ).Nodup:=((refP_perm ps ls cs).map kQ).nodup_iff.2 hP;have e1:li=setAll kN (refN ps ls cs):=up_ext kN h4 (setAll_up kN n1) fun x=>(h3.mem_iff.trans (refN_perm ps ls cs).mem_iff.symm).trans (mem_setAll kN n1 x).symm;obtain⟨qs,g1,g2,g3⟩:=rows_told h6
 have e2:qs=setAll kQ (refP ps ls cs):=by
  refine up_ext kQ (by rw[g2];exact h7) (setAll_up kQ n2) fun x=> ?_;rw[mem_setAll kQ n2,(refP_perm ps ls cs).mem_iff];refine⟨g3 x,fun hx=> ?_⟩;have h9:x.1∈lp.map fun r=>r.nm:=h5.mem_iff.2 (List.mem_map_of_mem hx);obtain⟨r,hr,hrn⟩:=List.mem_map.1 h9
  have h10:kQ x∈qs.map kQ:=by rw[g2];exact List.mem_map.2 ⟨r,hr,by show nmB r.nm=nmB x.1;rw[hrn]⟩
  obtain⟨y,hy,hyx⟩:=List.mem_map.1 h10;have:=nodup_inj kQ hP (g3 y hy) hx hyx;rw[←this];exact hy
 exact⟨⟨_,rfl,A1,c1,A2,c2,lp,by rw[←e1];rfl,by rw[←e1];exact row_s h1,row_s h2,by rw[←e2];exact g1⟩,h8⟩
theorem rent_mem {w0 w':World} {ps ls:List Vr} {cs:List S} {e:Ending} (h:REntPost w0 ps ls cs e w'):
  (∃v,e= .returned v∧MemAt w' (setAll kN (refN ps ls cs)) (setAll kQ (refP ps ls cs)) v)∧Below w0.heap.size w0 w':=by
 obtain⟨A1,c1,A2,c2,lp,rfl,h1,h2,h3,h4⟩:=h;exact⟨⟨_,rfl,A1,c1,A2,c2,lp,rfl,row_s h1,row_s h2,h3⟩,h4⟩
theorem cmpB_self:∀a:List UInt8,Lib.compareBytes a a=0
 | []=>by simp[Lib.compareBytes]
 |a::r=>by
  unfold Lib.compareBytes
  have h:¬a<a:=by rw[UInt8.lt_iff_toNat_lt];omega
  rw[if_neg h,if_neg h,cmpB_self r]
def fcmp (b:Nat):Value:= .func (.func 157) #[] #[.pointer (some ⟨b,0,none⟩)]
theorem below_grow (w:World) (n:Nat) (os:Array Obj):Below w.heap.size w (Sort.grow (w.drewN n) os):=
 ⟨rfl,rfl,rfl,by rw[Sort.size_grow];exact Nat.le_add_right _ _,fun k hk=>by
  show(w.heap++os)[k]? =_
  rw[Array.getElem?_append_left hk]⟩
theorem strcmp_below (a b:ByteArray) (w:World):Calls Tryz.prog 121 #[.string a,.string b] w fun e w'=>e= .returned (.int .i64 (Lib.compareBytes (nmB a) (nmB b)))∧Below w.heap.size w w':=
 (strcmp_grown a b w).mono fun _ _ ⟨h,q,os,h2⟩=>⟨h,by rw[h2];exact below_grow w q os⟩
theorem nameN_below (x:NRw) (w:World):Calls Tryz.prog 72 #[.agg #[.string x.nm,.bool x.so,.int .i64 x.lo,.int .i64 x.hi]] w fun e w'=>e= .returned (.string x.nm)∧Below w.heap.size w w':=
 (nameN_any x w).mono fun _ _ ⟨h,q,os,h2⟩=>⟨h,by rw[h2];exact below_grow w q os⟩
theorem Box.below {w w':World} {b f:Nat} (h:Box w b f) (hb:Below w.heap.size w w'):Box w' b f:=⟨Nat.lt_of_lt_of_le h.1 hb.size,(World.cell?_of_block (hb.block b h.1)).trans h.2⟩
theorem fcmp_any (x:NRw) (s:ByteArray) (b:Nat) (w:World) (hb:Box w b 72):
  Calls Tryz.prog 157 #[.agg #[.string x.nm,.bool x.so,.int .i64 x.lo,.int .i64 x.hi],.string s,.pointer (some ⟨b,0,none⟩)] w fun e w'=>e= .returned (.int .i64 (Lib.compareBytes (nmB x.nm) (nmB s)))∧Below w.heap.size w w':=by
 have hbn:=below_new w (.cells #[.string x.nm,.bool x.so,.int .i64 x.lo,.int .i64 x.hi] 128);have hh:=Holds.new w 128 #[.string x.nm,.bool x.so,.int .i64 x.lo,.int .i64 x.hi];have hbx:=hb.below hbn;obtain⟨q0,q1⟩:=hbx;have z0:=(fact_of hh 0 rfl).2;have z1:=(fact_of hh 1 rfl).2;have z2:=(fact_of hh 2 rfl).2;have z3:=(fact_of hh 3 rfl).2;have hbn:=zi hbn;clear hh hb;go_enter Tryz.func157,Tryz.ntmps157;go_wp2_with fail;refine(nameN_below x _).mono ?_;rintro e w2 ⟨rfl,hb2⟩;have hb2:=zi (hbn.out.trans (hb2.mono hbn.out.size));clear hbn z0 z1 z2 z3 q0 q1;go_wp2_with fail;refine(strcmp_below x.nm s _).mono ?_;rintro e w3 ⟨rfl,hb3⟩;have hb3:=zi (hb2.out.trans (hb3.mono hb2.out.size));clear hb2;go_wp2_with fail;go_ret;exact⟨rfl,hb3.out⟩
theorem bfunc_any (w:World) (A:Option Addr) (n c b:Nat) (li:List NRw) (s:ByteArray) (K:Nat) (hn:n=li.length) (hm:n≤1000) (hu:(li.map kN).Pairwise (·<·)) (hr:RowS w Evr A (li.flatMap encN)) (hb:Box w b 72) (hK:K<li.length) (hs:li[K].nm=s):
  Calls Tryz.prog 156 #[.slice A n c,.string s,fcmp b] w fun e w'=>e= .returned (.tuple #[.int .i64 K,.bool true])∧Below w.heap.size w w':=by
 have hup:Hid (∀i j (hi:i<li.length) (hj:j<li.length),i<j→nmB li[i].nm<nmB li[j].nm):=zi fun i j hi hj hij=>by have:=List.pairwise_iff_getElem.1 hu i j (by simpa using hi) (by simpa using hj) hij;simpa[kN]using this
 replace hr:=zi hr;replace hb:=zi hb
 have hKn:K<n:=by omega
 have hn':=zi hn;have hs':=zi hs;have hK':=zi hK;clear hn hs hu;unfold fcmp;go_enter Tryz.func156,Tryz.ntmps156;go_wp2_with fail;go_loopw [9,10] (fun iv jv wr=>∃i j:Nat,i≤K∧K≤j∧j≤n∧iv= .int .i64 i∧jv= .int .i64 j∧Hid (Below w.heap.size w wr)) (fun iv jv _=>(intOf jv).toNat-(intOf iv).toNat)
 case atStart=>exact⟨0,n,by omega,by omega,Nat.le_refl _,rfl,rfl,zi (Below.refl _ _)⟩
 obtain⟨i,j,hi,hj,hjn,rfl,rfl,hbl⟩:=hrel;rename World=>wr;by_cases hlt:i<j
 ·obtain⟨h,hh,hih,hhj⟩:∃h:Nat,((i:Int)+j)/2=h∧i≤h∧h<j:=⟨(i+j)/2,by omega,by omega,by omega⟩
  have hl:h<li.length:=by rw[←hn'.out];omega
  have hln:h<n:=by omega
  obtain⟨ba,oa,rfl,qa,hqa⟩:=grow_at (enc:=encN) (kk:=4) (fun _=>rfl) (by decide) (hr.out.up hbl.out) hl;have s0:wr.cell? ⟨ba,oa+h*4,none⟩=some (.string li[h].nm):=hqa 0 _ rfl;have s1:wr.cell? ⟨ba,oa+h*4+1,none⟩=some (.bool li[h].so):=hqa 1 _ rfl;have s2:wr.cell? ⟨ba,oa+h*4+2,none⟩=some (.int .i64 li[h].lo):=hqa 2 _ rfl;have s3:wr.cell? ⟨ba,oa+h*4+3,none⟩=some (.int .i64 li[h].hi):=hqa 3 _ rfl;have cF:=zi (fcmp_any li[h] s b wr (hb.out.below hbl.out));obtain⟨cv,hcv⟩:∃y,y=Lib.compareBytes (nmB li[h].nm) (nmB s):=⟨_,rfl⟩
  have hc1:Hid (cv<0→h<K):=zi fun hc=>by
   rw[hcv,cmpB_lt,←hs'.out]at hc;rcases Nat.lt_or_ge h K with h1|h1
   ·exact h1
   ·rcases Nat.lt_or_ge K h with h2|h2
    ·exact absurd (List.lt_trans hc (hup.out K h hK'.out hl h2)) (List.lt_irrefl _)
    ·have:h=K:=by omega
     subst this;exact absurd hc (List.lt_irrefl _)
  have hc2:Hid (¬cv<0→K≤h):=zi fun hc=>by
   rw[hcv,cmpB_lt,←hs'.out]at hc;rcases Nat.lt_or_ge h K with h1|h1
   ·exact absurd (hup.out h K hl hK'.out h1) hc
   ·exact h1
  rw[←hcv]at cF;clear hqa hcv;generalize li[h]=x at s0 s1 s2 s3 cF;by_cases hc:cv<0
  ·have hhK:=hc1.out hc;clear hc1 hc2;go_wp2_with fail;refine cF.out.mono ?_;rintro e w2 ⟨rfl,hb2⟩;have hb3:=zi (hbl.out.trans (hb2.mono hbl.out.size));clear hb2 cF s0 s1 s2 s3;go_wp2_with fail;refine⟨⟨h+1,j,by omega,hj,hjn,by go_num,rfl,hb3⟩,?_⟩;simp[intOf];omega
  ·have hhK:=hc2.out hc;clear hc1 hc2;go_wp2_with fail;refine cF.out.mono ?_;rintro e w2 ⟨rfl,hb2⟩;have hb3:=zi (hbl.out.trans (hb2.mono hbl.out.size));clear hb2 cF s0 s1 s2 s3;go_wp2_with fail;refine⟨⟨i,h,hi,hhK,by omega,rfl,rfl,hb3⟩,?_⟩;simp[intOf];omega
 ·have hiK:i=K:=by omega
  have hjK:j=K:=by omega
  have hK2:=hK'.out;obtain⟨ba,oa,rfl,qa,hqa⟩:=grow_at (enc:=encN) (kk:=4) (fun _=>rfl) (by decide) (hr.out.up hbl.out) hK2;have s0:wr.cell? ⟨ba,oa+K*4,none⟩=some (.string li[K].nm):=hqa 0 _ rfl;have s1:wr.cell? ⟨ba,oa+K*4+1,none⟩=some (.bool li[K].so):=hqa 1 _ rfl;have s2:wr.cell? ⟨ba,oa+K*4+2,none⟩=some (.int .i64 li[K].lo):=hqa 2 _ rfl;have s3:wr.cell? ⟨ba,oa+K*4+3,none⟩=some (.int .i64 li[K].hi):=hqa 3 _ rfl;have cF:=fcmp_any li[K] s b wr (hb.out.below hbl.out);rw[hs'.out,cmpB_self]at cF;rw[hs'.out]at s0;have cF:=zi cF;clear hqa;generalize li[K].so=e1 at s1 cF;generalize li[K].lo=e2 at s2 cF;generalize li[K].hi=e3 at s3 cF;rw[hiK,hjK];clear hiK hjK hlt hi hj hjn;go_wp2_with fail;refine cF.out.mono ?_;rintro e w2 ⟨rfl,hb2⟩;have hb3:=zi (hbl.out.trans (hb2.mono hbl.out.size));clear hb2 cF s0 s1 s2 s3;go_wp2_with fail
  go_ret2
  exact⟨rfl,hb3.out⟩
theorem find_any (w:World) (A:Option Addr) (n c:Nat) (li:List NRw) (s:ByteArray) (K:Nat) (hn:n=li.length) (hm:n≤1000) (hu:(li.map kN).Pairwise (·<·)) (hr:RowS w Evr A (li.flatMap encN)) (hK:K<li.length) (hs:li[K].nm=s):
  Calls Tryz.prog 110 #[.slice A n c,.func (.func 72) #[] #[],.string s] w fun e w'=>e= .returned (.tuple #[.int .i64 K,.bool true])∧Below w.heap.size w w':=by
 have hbn:=below_new w (.cells #[.func (.func 72) #[] #[]] 138);have hh:=Holds.new w 138 #[.func (.func 72) #[] #[]];have cB:=bfunc_any (w.alloc (.cells #[.func (.func 72) #[] #[]] 138)) A n c w.heap.size li s K hn hm hu (hr.up hbn) ⟨hh.lt,hh.cell 0⟩ hK hs;unfold fcmp at cB;replace cB:=zi cB;replace hbn:=zi hbn;clear hh hr hu hn;go_enter Tryz.func110,Tryz.ntmps110;go_wp2_with fail;refine cB.out.mono ?_;rintro e w2 ⟨rfl,hb2⟩;have hb3:=zi (hbn.out.trans (hb2.mono hbn.out.size));clear hb2 cB;go_wp2_with fail
 go_ret2
 exact⟨rfl,hb3.out⟩
theorem ret_cellT {fn:Func} {p u:Tmp} {ty:TypeId} {R:Ending→World→Prop} {a:Act} {w:World} {g:Nat} {t:TypeId} {cs:Array Value} {fs:Array Field} (h:fn.results= #[.cell p ty,.tmp u]) (hd0:a.defers= []) (hp:a.tmps.getD p undef= .pointer (some ⟨g,0,none⟩))
  (hg:Holds w g t cs) (hu:Tryz.prog.underlying ty=some (.struct fs)) (hi:(Tryz.prog.info? ty).map (·.size)=some cs.size)
  (hR:R (.returned (.tuple #[.agg cs,a.tmps.getD u undef])) w):bodyPost Tryz.prog fn R .ret a w:=by
 refine bodyPost_ret_by (v:= .tuple #[.agg cs,a.tmps.getD u undef]) ?_ hd0 hR
 have hp':a.tmps[p]?.getD undef= .pointer (some ⟨g,0,none⟩):=by simpa[Array.getD_eq_getD_getElem?]using hp
 simp[results,h,hp',asAddr,run_loadVar_row w g t ty cs (0,0) _ hg hu rfl hi,Result.andThen,Array.getD_eq_getD_getElem?]
theorem int_any (w:World) (A Ap:Option Addr) (c np cp:Nat) (li:List NRw) (s:ByteArray) (K:Nat) (so:Bool) (lo hi:Int) (hm:li.length≤1000) (hu:(li.map kN).Pairwise (·<·)) (hr:RowS w Evr A (li.flatMap encN)) (hK:K<li.length) (hs:li[K]=⟨s,so,lo,hi⟩):
  Calls Tryz.prog 59 #[memV A li.length c Ap np cp,.string s] w fun e w'=>e= .returned (.tuple #[ivV so lo hi,.bool true])∧Below w.heap.size w w':=by
 have k1:=below_new w (.cells #[.bool true,.slice A li.length c,.slice Ap np cp] 56);have k2:=below_new (w.alloc (.cells #[.bool true,.slice A li.length c,.slice Ap np cp] 56)) (.cells #[.bool false,.int .i64 0,.int .i64 0] 115);have hHm:=(Holds.new w 56 #[.bool true,.slice A li.length c,.slice Ap np cp]).alloc (.cells #[.bool false,.int .i64 0,.int .i64 0] 115);have hHr:=Holds.new (w.alloc (.cells #[.bool true,.slice A li.length c,.slice Ap np cp] 56)) 115 #[.bool false,.int .i64 0,.int .i64 0];rw[show(w.alloc (.cells #[.bool true,.slice A li.length c,.slice Ap np cp] 56)).heap.size=w.heap.size+1 by simp]at hHr;have hb:=k1.trans (k2.mono k1.size);obtain⟨W,hW⟩:∃y,y=(w.alloc (.cells #[.bool true,.slice A li.length c,.slice Ap np cp] 56)).alloc (.cells #[.bool false,.int .i64 0,.int .i64 0] 115):=⟨_,rfl⟩;rw[←hW]at hHm hHr hb;obtain⟨n,hn⟩:∃y,y=li.length:=⟨_,rfl⟩;have cF:=find_any W A n c li s K hn (by omega) hu (hr.up hb) hK (by rw[hs]);rw[←hn]at hW hHm⊢
 have hKn:K<n:=by omega
 replace hr:=zi (hr.up hb);have hfo:=zi hW.symm;replace cF:=zi cF;replace hb:=zi hb;have m0:=(fact_of hHm 0 rfl).2;have m1:=(fact_of hHm 1 rfl).2;replace hHm:=zi hHm;replace hHr:=zi hHr;have hs':=zi hs;have hK':Hid (K<li.length):=zi hK;clear k1 k2 hW hn hu;unfold memV;go_enter Tryz.func59,Tryz.ntmps59;go_upto_region 1 with(fail);rw[hfo.out];go_wp2_with fail;refine cF.out.mono ?_;rintro e w2 ⟨rfl,hb2⟩;have hHr2:=hHr.out.below hb2 hHr.out.lt;have hHm2:=hHm.out.below hb2 hHm.out.lt;clear m0 m1;have m1:=(fact_of hHm2 1 rfl).2;have ml:=hHm2.lt;obtain⟨ba,oa,rfl,qa,hqa⟩:=grow_at (enc:=encN) (kk:=4) (fun _=>rfl) (by decide) (hr.out.up hb2) hK'.out;rw[hs'.out]at hqa;have s1:w2.cell? ⟨ba,oa+K*4+1,none⟩=some (.bool so):=hqa 1 _ rfl;have s2:w2.cell? ⟨ba,oa+K*4+2,none⟩=some (.int .i64 lo):=hqa 2 _ rfl;have s3:w2.cell? ⟨ba,oa+K*4+3,none⟩=some (.int .i64 hi):=hqa 3 _ rfl;have f0:=hHr2.frozen 0;have f1:=hHr2.frozen 1;have f2:=hHr2.frozen 2;have r0:=(fact_of hHr2 0 rfl).2;have r1:=(fact_of hHr2 1 rfl).2;have r2:=(fact_of hHr2 2 rfl).2;have rl:=hHr2.lt
 have hst:=writes_three w2 (w.heap.size+1) (.bool so) (.int .i64 lo) (.int .i64 hi);have hfin:=zi ((hb.out.trans (hb2.mono hb.out.size)).trans (hst.below (Nat.le_trans hb.out.size hb2.size) fun j hj=>by simp at hj;omega));have hh3:=zi (holds_three hHr2 (.bool so) (.int .i64 lo) (.int .i64 hi));clear hqa hst hHr2 hHm2 hb2 cF;go_wp2_with fail;exact ret_cellT rfl rfl (by simp) hh3.out Tryz.underlying115 Tryz.szIval ⟨rfl,hfin.out⟩
def memN:Value:= .agg #[.bool false,.slice none 0 0,.slice none 0 0]
theorem ivalVoid_any (w:World):Calls Tryz.prog 158 #[.agg #[.bool false,.int .i64 0,.int .i64 0]] w (RetB w (.bool true)):=by
 have hb:=zi (below_new w (.cells #[.bool false,.int .i64 0,.int .i64 0] 115));have hh:=Holds.new w 115 #[.bool false,.int .i64 0,.int .i64 0];have z0:=(fact_of hh 0 rfl).2;go_enter Tryz.func158,Tryz.ntmps158;go_wp2_with fail;go_ret;exact⟨rfl,hb.out⟩
theorem memNone_any (w:World):Calls Tryz.prog 63 #[] w (RetB w memN):=by
 have hb:=below_new w (.cells #[.bool false,.slice none 0 0,.slice none 0 0] 56);have hh:=Holds.new w 56 #[.bool false,.slice none 0 0,.slice none 0 0];go_enter Tryz.func63,Tryz.ntmps63;go_wp2_with fail;exact ret_cellO rfl rfl rfl hh Tryz.underlying56 Tryz.szMemS ⟨rfl,hb⟩
theorem joinVoid_any (w:World) (g:Nat) (hg:Holds w g 115 #[.bool false,.int .i64 0,.int .i64 0]):
  Calls Tryz.prog 112 #[.slice (some ⟨g,0,none⟩) 1 1] w (RetB w (ivV false 0 0)):=by
 have kb:=below_new w (.cells #[.bool false,.int .i64 0,.int .i64 0] 115);have hr:=Holds.new w 115 #[.bool false,.int .i64 0,.int .i64 0];have hg1:=hg.below kb hg.lt;obtain⟨w1,hw1⟩:∃y,y=w.alloc (.cells #[.bool false,.int .i64 0,.int .i64 0] 115):=⟨_,rfl⟩;rw[←hw1]at kb hr hg1;obtain⟨gr,hgr⟩:∃y,y=w.heap.size:=⟨_,rfl⟩;rw[←hgr]at hr
 have hgw:w.heap.size≤gr:=by omega
 replace kb:=zi kb;replace hr:=zi hr;replace hg1:=zi hg1;have hfo:=zi hw1.symm;have hgo:=zi hgr.symm;clear hw1 hgr hg;go_enter Tryz.func112,Tryz.ntmps112;go_wp2_with fail;rw[hfo.out,hgo.out];clear hfo hgo;refine(ivalEmpty_any w1).mono ?_;rintro e w2 ⟨rfl,hb2⟩;have hB2:=kb.out.trans (hb2.mono kb.out.size);have hr2:=hr.out.below hb2 hr.out.lt;have hg2:=hg1.out.below hb2 hg1.out.lt;have k3:=below_new w2 (.cells #[.bool false,.int .i64 0,.int .i64 0] 115);have h3:=Holds.new w2 115 #[.bool false,.int .i64 0,.int .i64 0];obtain⟨w3,hw3⟩:∃y,y=w2.alloc (.cells #[.bool false,.int .i64 0,.int .i64 0] 115):=⟨_,rfl⟩;rw[←hw3]at k3 h3;obtain⟨g3,hg3⟩:∃y,y=w2.heap.size:=⟨_,rfl⟩;rw[←hg3]at h3;have hB3:=zi (hB2.trans (k3.mono hB2.size));have hr3:=zi (hr2.below k3 hr2.lt);have hgg3:=zi (hg2.below k3 hg2.lt);have h3:=zi h3;have hfo:=zi hw3.symm;have hgo:=zi hg3.symm;clear hw3 hg3 hB2 hr2 hg2 k3 hb2;unfold ivV;go_upto_region 3 with(fail);rw[hfo.out,hgo.out];clear hfo hgo;go_loopw [9] (fun i wr=>∃k:Nat,k≤1∧i= .int .i64 k∧Hid (Below w3.heap.size w3 wr)) (fun i _=>1-(intOf i).toNat)
 case atStart=>exact⟨0,by omega,rfl,zi (Below.refl _ _)⟩
 obtain⟨k,hk,rfl,hbl⟩:=hrel;rename World=>wr;by_cases hlt:k<1
 ·have hk0:k=0:=by omega
  subst hk0;have hG:=hgg3.out.below hbl.out hgg3.out.lt;have z0:=(fact_of hG 0 rfl).2;have z1:=(fact_of hG 1 rfl).2;have z2:=(fact_of hG 2 rfl).2;have k4:=below_new wr (.cells #[.bool false,.int .i64 0,.int .i64 0] 115);have h4:=Holds.new wr 115 #[.bool false,.int .i64 0,.int .i64 0];have y0:=(fact_of h4 0 rfl).2;have y1:=(fact_of h4 1 rfl).2;have y2:=(fact_of h4 2 rfl).2;have hb4:=zi (hbl.out.trans (k4.mono hbl.out.size));clear hG h4 k4;go_wp2_with fail;refine(ivalVoid_any _).mono ?_;rintro e w5 ⟨rfl,hb5⟩;have hb6:=zi (hb4.out.trans (hb5.mono hb4.out.size));clear hb5 z0 z1 z2 y0 y1 y2;go_wp2_with fail;refine⟨⟨1,by omega,by go_num,hb6⟩,?_⟩;simp[intOf]
 ·have hk1:k=1:=by omega
  subst hk1;have hR:=hr3.out.below hbl.out hr3.out.lt;have hT:=h3.out.below hbl.out h3.out.lt;have z0:=(fact_of hT 0 rfl).2;have z1:=(fact_of hT 1 rfl).2;have z2:=(fact_of hT 2 rfl).2;have y0:=(fact_of hR 0 rfl).2;have y1:=(fact_of hR 1 rfl).2;have y2:=(fact_of hR 2 rfl).2;have f0:=hR.frozen 0;have f1:=hR.frozen 1;have f2:=hR.frozen 2;have tl:=hT.lt;have rl:=hR.lt;have hst:=writes_three wr gr (.bool false) (.int .i64 0) (.int .i64 0);have hfin:=zi ((hB3.out.trans (hbl.out.mono hB3.out.size)).trans (hst.below (Nat.le_trans hB3.out.size hbl.out.size) fun j hj=>by simp at hj;omega));have hh3:=zi (holds_three hR (.bool false) (.int .i64 0) (.int .i64 0));clear hst hR hT;go_wp2_with fail;exact ret_cellO rfl rfl (by simp) hh3.out Tryz.underlying115 Tryz.szIval ⟨rfl,hfin.out⟩
theorem setVoid_any (w:World) (A Ap:Option Addr) (n c np cp:Nat) (s:ByteArray):
  Calls Tryz.prog 60 #[memV A n c Ap np cp,.string s,.agg #[.bool false,.int .i64 0,.int .i64 0]] w (RetB w memN):=by
 obtain⟨wa,hwa⟩:∃y,y=w.alloc (.cells #[.bool true,.slice A n c,.slice Ap np cp] 56):=⟨_,rfl⟩;obtain⟨wb,hwb⟩:∃y,y=wa.alloc (.cells #[.bool false,.int .i64 0,.int .i64 0] 115):=⟨_,rfl⟩;obtain⟨wc,hwc⟩:∃y,y=wb.alloc (.cells #[.bool false,.slice none 0 0,.slice none 0 0] 56):=⟨_,rfl⟩;obtain⟨wd,hwd⟩:∃y,y=wc.alloc (.cells #[.bool false,.int .i64 0,.int .i64 0] 115):=⟨_,rfl⟩
 have ka:Below w.heap.size w wa:=by rw[hwa];exact below_new _ _
 have kb:Below wa.heap.size wa wb:=by rw[hwb];exact below_new _ _
 have kc:Below wb.heap.size wb wc:=by rw[hwc];exact below_new _ _
 have kd:Below wc.heap.size wc wd:=by rw[hwd];exact below_new _ _
 have hm:=Holds.new w 56 #[.bool true,.slice A n c,.slice Ap np cp];have hv:=Holds.new wa 115 #[.bool false,.int .i64 0,.int .i64 0];have hr:=Holds.new wb 56 #[.bool false,.slice none 0 0,.slice none 0 0];have hx:=Holds.new wc 115 #[.bool false,.int .i64 0,.int .i64 0];rw[←hwa]at hm;rw[←hwb]at hv;rw[←hwc]at hr;rw[←hwd]at hx;have hm:=(hm.below kb hm.lt).below kc (hm.below kb hm.lt).lt;have hm:=hm.below kd hm.lt;have hv:=(hv.below kc hv.lt).below kd (hv.below kc hv.lt).lt;have hr:=hr.below kd hr.lt
 have z1:wa.heap.size=w.heap.size+1:=by rw[hwa];simp
 have z2:wb.heap.size=w.heap.size+2:=by rw[hwb];simp;omega
 have z3:wc.heap.size=w.heap.size+3:=by rw[hwc];simp;omega
 have hb:=((ka.trans (kb.mono ka.size)).trans (kc.mono (by omega))).trans (kd.mono (by omega));rw[z1]at hv;rw[z2]at hr;rw[z3]at hx;obtain⟨gm,hgm⟩:∃y,y=w.heap.size:=⟨_,rfl⟩;obtain⟨gv,hgv⟩:∃y,y=w.heap.size+1:=⟨_,rfl⟩;obtain⟨gr,hgr⟩:∃y,y=w.heap.size+2:=⟨_,rfl⟩;obtain⟨gx,hgx⟩:∃y,y=w.heap.size+3:=⟨_,rfl⟩;rw[←hgm]at hm;rw[←hgv]at hv;rw[←hgr]at hr;rw[←hgx]at hx;have hgm':=zi hgm.symm;have hgv':Hid (gm+1=gv):=zi (by omega);have hgr':Hid (gv+1=gr):=zi (by omega);have hgx':Hid (gr+1=gx):=zi (by omega);have cJ:=zi (joinVoid_any wd gx hx);have hfo:Hid ((((w.alloc (.cells #[.bool true,.slice A n c,.slice Ap np cp] 56)).alloc (.cells #[.bool false,.int .i64 0,.int .i64 0] 115)).alloc (.cells #[.bool false,.slice none 0 0,.slice none 0 0] 56)).alloc (.cells #[.bool false,.int .i64 0,.int .i64 0] 115)=wd):=zi (by rw[hwd,hwc,hwb,hwa]);replace hm:=zi hm;replace hv:=zi hv;replace hr:=zi hr;replace hb:=zi hb;clear hwa hwb hwc hwd ka kb kc kd z1 z2 z3 hx hgm hgv hgr hgx;unfold memV;go_enter Tryz.func60,Tryz.ntmps60;go_wp2_with fail
 rw[hfo.out,hgm'.out,hgv'.out,hgr'.out,hgx'.out];clear hfo;refine cJ.out.mono ?_;clear cJ;rintro e w2 ⟨rfl,hb2⟩;unfold ivV;have hm2:=hm.out.below hb2 hm.out.lt;have hv2:=hv.out.below hb2 hv.out.lt;have hr2:=hr.out.below hb2 hr.out.lt;have z0:=(fact_of hv2 0 rfl).2;have z1:=(fact_of hv2 1 rfl).2;have z2:=(fact_of hv2 2 rfl).2;have f0:=hv2.frozen 0;have f1:=hv2.frozen 1;have f2:=hv2.frozen 2;have vl:=hv2.lt;have hst:=writes_three w2 gv (.bool false) (.int .i64 0) (.int .i64 0);have hv3:=zi (holds_three hv2 (.bool false) (.int .i64 0) (.int .i64 0));have hB2:=hb.out.trans (hb2.mono hb.out.size);have hB3:=zi (hB2.trans (hst.below hB2.size fun j hj=>by simp at hj;have:=hgm'.out;have:=hgv'.out;omega));have hm3:=zi (hst.holds hm2 (by simp;have:=hgv'.out;omega));have hr3:=zi (hst.holds hr2 (by simp;have:=hgr'.out;omega));obtain⟨w3,hw3⟩:∃y,y=((w2.setCell ⟨gv,0,none⟩ (.bool false)).setCell ⟨gv,1,none⟩ (.int .i64 0)).setCell ⟨gv,2,none⟩ (.int .i64 0):=⟨_,rfl⟩;rw[←hw3]at hv3 hB3 hm3 hr3;replace hw3:=zi hw3.symm;clear hm2 hv2 hr2 hst hB2 hb2 hm hv hr hb;go_upto_region 2 with(fail);rw[hw3.out]
 clear hw3 z0 z1 z2 f0 f1 f2 vl;have z0:=(fact_of hv3.out 0 rfl).2;have m0:=(fact_of hm3.out 0 rfl).2;have vl:=hv3.out.lt;have ml:=hm3.out.lt;go_wp2_with fail;refine(memNone_any w3).mono ?_;rintro e w4 ⟨rfl,hb4⟩;unfold memN;have hr4:=hr3.out.below hb4 hr3.out.lt;clear z0 m0 vl ml;have z0:=(fact_of hr4 0 rfl).2;have z1:=(fact_of hr4 1 rfl).2;have z2:=(fact_of hr4 2 rfl).2;have f0:=hr4.frozen 0;have f1:=hr4.frozen 1;have f2:=hr4.frozen 2;have rl:=hr4.lt;have hst:=writes_three w4 gr (.bool false) (.slice none 0 0) (.slice none 0 0);have hh:=zi (holds_three hr4 (.bool false) (.slice none 0 0) (.slice none 0 0));have hB4:=hB3.out.trans (hb4.mono hB3.out.size);have hB5:=zi (hB4.trans (hst.below hB4.size fun j hj=>by simp at hj;have:=hgm'.out;have:=hgv'.out;have:=hgr'.out;omega));clear hr4 hst hB4 hb4;go_wp2_with fail;exact ret_cellO rfl rfl (by simp) hh.out Tryz.underlying56 Tryz.szMemS ⟨rfl,hB5.out⟩
def kRows:List NRw:= [allN (atB [99]),zeroN retB,allN (strV [120]),zeroN (strV [121])]
theorem kRows_eq:setAll kN (refN [⟨[120],false⟩] [⟨[121],false⟩] [[99]])=kRows:=by kernel_rfl
theorem kRows_up:(kRows.map kN).Pairwise (·<·):=by decide
theorem kText:funcF (⟨#[102,110,32,102,40,120,41,32,123,32,118,97,114,32,121,59,32,125]⟩:ByteArray).data.toList=(⟨[102],[⟨[120],false⟩],[⟨[121],false⟩],.nil⟩,0,0):=by kernel_rfl
theorem hb_ {w w' w'':World} (h:Below w.heap.size w w') (h2:Below w'.heap.size w' w'') (x:Nat) (hx:x<w.heap.size):w''.heap[x]? =w.heap[x]? :=(h2.block x (Nat.lt_of_lt_of_le hx h.size)).trans (h.block x hx)
theorem kNodup:((entN [⟨[120],false⟩] [⟨[121],false⟩] [[99]]).map fun x=>nmB x.nm).Nodup∧((entP [⟨[120],false⟩] [⟨[121],false⟩] [[99]]).map fun q=>nmB q.1).Nodup:=by decide
theorem known15_any (w:World):Calls Tryz.prog 21 #[] w (RetB w (.bool true)):=by
 have cF:=func_any w ⟨#[102,110,32,102,40,120,41,32,123,32,118,97,114,32,121,59,32,125]⟩ (by decide);rw[kText]at cF;replace cF:=zi cF;go_enter Tryz.func21,Tryz.ntmps21;go_wp2_with fail;refine cF.out.mono ?_;clear cF;rintro e w1 ⟨vp,vl,vb,rfl,hF,hb1⟩;have hp:=hF.ps.mono (S':=Evr) fun _ _ _=>trivial;have hl:=hF.ls.mono (S':=Evr) fun _ _ _=>trivial;obtain⟨A3,c3,us,rfl,-,-,-,-⟩:=hF.body;obtain⟨A1,c1,rfl,-,-,-,-⟩:=hF.ps;obtain⟨A2,c2,rfl,-,-,-,-⟩:=hF.ls;clear hF;obtain⟨n3,hn3⟩:∃y,y=Sl.nil.len:=⟨_,rfl⟩;rw[←hn3];clear hn3;simp only[List.length_cons,List.length_nil,Nat.zero_add];have k2:=below_new w1 (.cells (fnC [102] A1 A2 A3 1 c1 1 c2 n3 c3) 26);have h2:=Holds.new w1 26 (fnC [102] A1 A2 A3 1 c1 1 c2 n3 c3);obtain⟨w2,hw2⟩:∃y,y=w1.alloc (.cells (fnC [102] A1 A2 A3 1 c1 1 c2 n3 c3) 26):=⟨_,rfl⟩;obtain⟨gf,hgf⟩:∃y,y=w1.heap.size:=⟨_,rfl⟩;rw[←hw2]at k2 h2;rw[←hgf]at h2;have hB2:=hb1.trans (k2.mono hb1.size);have k3:=below_new w2 (.cells #[.string ⟨#[99]⟩] 9);have h3:=Holds.new w2 9 #[.string ⟨#[99]⟩];obtain⟨w3,hw3⟩:∃y,y=w2.alloc (.cells #[.string ⟨#[99]⟩] 9):=⟨_,rfl⟩
 obtain⟨gs,hgs⟩:∃y,y=w2.heap.size:=⟨_,rfl⟩;rw[←hw3]at k3 h3;rw[←hgs]at h3;have hB3:=zi (hB2.trans (k3.mono hB2.size));have f0:=(fact_of h2 0 rfl).2;have f1:=(fact_of h2 1 rfl).2;have f2:=(fact_of h2 2 rfl).2;have f3:=(fact_of h2 3 rfl).2;have fl:=h2.lt;have hrow:Row w3 w3.heap.size (some ⟨gs,0,none⟩) ([[99]].map encStr):=fun _=>⟨gs,0,rfl,h3.lt,fun j u hu=>by rw[Nat.zero_add,h3.cell j];simpa using hu⟩;have cE:=entry_any w3 [102] [⟨[120],false⟩] [⟨[121],false⟩] A1 A2 A3 c1 c2 n3 c3 ((hp.keep fun x hx _=>hb_ k2 k3 x hx)) ((hl.keep fun x hx _=>hb_ k2 k3 x hx)) [[99]] (some ⟨gs,0,none⟩) none 1 0 0 hrow (by decide) (by decide) (by decide) (by decide) kNodup.1 kNodup.2;replace cE:=zi cE;have hfo:Hid (w1.alloc (.cells (fnC [102] A1 A2 A3 1 c1 1 c2 n3 c3) 26)=w2):=zi hw2.symm;have hfo2:=zi hw3.symm;have hgf':=zi hgf.symm;have hgs':=zi hgs.symm;clear hw2 hw3 hgf hgs k2 k3 h2 h3 hB2 hb1 hrow hp hl;unfold fnC at hfo cE;go_upto_region 2 with(fail);rw[hfo.out,hgf'.out];clear hfo hgf';go_wp2_with fail;rw[hfo2.out,hgs'.out];clear hfo2 hgs';refine(cE.out.mono fun e w' h=>ent_mem h kNodup.1 kNodup.2).mono ?_;clear cE
 rintro e w4 ⟨⟨v,rfl,hM⟩,hb4⟩;rw[kRows_eq]at hM;obtain⟨Ai,ki,Ap,kp,lp,rfl,hri,-,-⟩:=hM;obtain⟨np,hnp⟩:∃y,y=lp.length:=⟨_,rfl⟩;rw[←hnp,show kRows.length=4 from rfl];clear hnp;unfold memV;have hB4:=hB3.out.trans (hb4.mono hB3.out.size);have k5:=below_new w4 (.cells #[.bool true,.slice Ai 4 ki,.slice Ap np kp] 56);have h5:=Holds.new w4 56 #[.bool true,.slice Ai 4 ki,.slice Ap np kp];obtain⟨w5,hw5⟩:∃y,y=w4.alloc (.cells #[.bool true,.slice Ai 4 ki,.slice Ap np kp] 56):=⟨_,rfl⟩;obtain⟨gm,hgm⟩:∃y,y=w4.heap.size:=⟨_,rfl⟩;rw[←hw5]at k5 h5;rw[←hgm]at h5;have hri5:=zi (hri.up k5);have hB5:=zi (hB4.trans (k5.mono hB4.size));have h5:=zi h5;replace hw5:=zi hw5.symm;replace hgm:=zi hgm.symm;clear f0 f1 f2 f3 fl hb4 hB3 hB4 hri k5;go_upto_region 3 with(fail);rw[hw5.out,hgm.out];clear hw5 hgm;have m0:=(fact_of h5.out 0 rfl).2;have m1:=(fact_of h5.out 1 rfl).2;have m2:=(fact_of h5.out 2 rfl).2;have ml:=h5.out.lt
 have cI:Hid (Calls Tryz.prog 59 #[.agg #[.bool true,.slice Ai 4 ki,.slice Ap np kp],.string ⟨#[120]⟩] w5 fun e w'=>e= .returned (.tuple #[.agg #[.bool true,.int .i64 (-9223372036854775808),.int .i64 9223372036854775807],.bool true])∧Below w5.heap.size w5 w'):=zi (int_any w5 Ai Ap ki np kp kRows ⟨#[120]⟩ 2 true (-9223372036854775808) 9223372036854775807 (by decide) kRows_up hri5.out (by decide) rfl);go_wp2_with fail;refine cI.out.mono ?_;clear cI m0 m1 m2 ml;rintro e w6 ⟨rfl,hb6⟩;have hB6:=hB5.out.trans (hb6.mono hB5.out.size);have k8:=below_new w6 (.cells #[.bool true,.int .i64 (-9223372036854775808),.int .i64 9223372036854775807] 115);have j8:=Holds.new w6 115 #[.bool true,.int .i64 (-9223372036854775808),.int .i64 9223372036854775807];obtain⟨w8,hw8⟩:∃y,y=w6.alloc (.cells #[.bool true,.int .i64 (-9223372036854775808),.int .i64 9223372036854775807] 115):=⟨_,rfl⟩;obtain⟨g8,hg8⟩:∃y,y=w6.heap.size:=⟨_,rfl⟩;rw[←hw8]at k8 j8;rw[←hg8]at j8;have h8:=zi ((h5.out.below hb6 h5.out.lt).below k8 (h5.out.below hb6 h5.out.lt).lt);have hri8:=zi ((hri5.out.up hb6).up k8);have hB8:=zi (hB6.trans (k8.mono hB6.size))
 replace j8:=zi j8;replace hw8:=zi hw8.symm;replace hg8:=zi hg8.symm;clear hb6 hB6 k8 h5 hri5 hB5;go_upto_region 4 with(fail);rw[hw8.out,hg8.out];clear hw8 hg8;have m0:=(fact_of h8.out 0 rfl).2;have m1:=(fact_of h8.out 1 rfl).2;have m2:=(fact_of h8.out 2 rfl).2;have ml:=h8.out.lt;have cI:Hid (Calls Tryz.prog 59 #[.agg #[.bool true,.slice Ai 4 ki,.slice Ap np kp],.string ⟨#[121]⟩] w8 fun e w'=>e= .returned (.tuple #[.agg #[.bool true,.int .i64 0,.int .i64 0],.bool true])∧Below w8.heap.size w8 w'):=zi (int_any w8 Ai Ap ki np kp kRows ⟨#[121]⟩ 3 true 0 0 (by decide) kRows_up hri8.out (by decide) rfl);go_wp2_with fail;refine cI.out.mono ?_;clear cI m0 m1 m2 ml;rintro e w9 ⟨rfl,hb9⟩;have hB9:=hB8.out.trans (hb9.mono hB8.out.size);have k11:=below_new w9 (.cells #[.bool true,.int .i64 0,.int .i64 0] 115);have j11:=Holds.new w9 115 #[.bool true,.int .i64 0,.int .i64 0];obtain⟨w11,hw11⟩:∃y,y=w9.alloc (.cells #[.bool true,.int .i64 0,.int .i64 0] 115):=⟨_,rfl⟩;obtain⟨g11,hg11⟩:∃y,y=w9.heap.size:=⟨_,rfl⟩;rw[←hw11]at k11 j11;rw[←hg11]at j11
 have h11:=zi ((h8.out.below hb9 h8.out.lt).below k11 (h8.out.below hb9 h8.out.lt).lt);have hri11:=zi ((hri8.out.up hb9).up k11);have hB11:=zi (hB9.trans (k11.mono hB9.size));replace j11:=zi j11;replace j8:=zi ((j8.out.below hb9 j8.out.lt).below k11 (j8.out.below hb9 j8.out.lt).lt);replace hw11:=zi hw11.symm;replace hg11:=zi hg11.symm;clear hb9 hB9 k11 h8 hri8 hB8;go_upto_region 5 with(fail);rw[hw11.out,hg11.out];clear hw11 hg11;have m0:=(fact_of h11.out 0 rfl).2;have m1:=(fact_of h11.out 1 rfl).2;have m2:=(fact_of h11.out 2 rfl).2;have ml:=h11.out.lt;have cI:Hid (Calls Tryz.prog 59 #[.agg #[.bool true,.slice Ai 4 ki,.slice Ap np kp],.string ⟨#[64,99]⟩] w11 fun e w'=>e= .returned (.tuple #[.agg #[.bool true,.int .i64 (-9223372036854775808),.int .i64 9223372036854775807],.bool true])∧Below w11.heap.size w11 w'):=zi (int_any w11 Ai Ap ki np kp kRows ⟨#[64,99]⟩ 0 true (-9223372036854775808) 9223372036854775807 (by decide) kRows_up hri11.out (by decide) rfl);go_wp2_with fail;refine cI.out.mono ?_;clear cI m0 m1 m2 ml;rintro e w12 ⟨rfl,hb12⟩;have hB12:=hB11.out.trans (hb12.mono hB11.out.size)
 have k14:=below_new w12 (.cells #[.bool true,.int .i64 (-9223372036854775808),.int .i64 9223372036854775807] 115);have j14:=Holds.new w12 115 #[.bool true,.int .i64 (-9223372036854775808),.int .i64 9223372036854775807];obtain⟨w14,hw14⟩:∃y,y=w12.alloc (.cells #[.bool true,.int .i64 (-9223372036854775808),.int .i64 9223372036854775807] 115):=⟨_,rfl⟩;obtain⟨g14,hg14⟩:∃y,y=w12.heap.size:=⟨_,rfl⟩;rw[←hw14]at k14 j14;rw[←hg14]at j14;have h14:=zi ((h11.out.below hb12 h11.out.lt).below k14 (h11.out.below hb12 h11.out.lt).lt);have hri14:=zi ((hri11.out.up hb12).up k14);have hB14:=zi (hB12.trans (k14.mono hB12.size));replace j14:=zi j14;replace j8:=zi ((j8.out.below hb12 j8.out.lt).below k14 (j8.out.below hb12 j8.out.lt).lt);replace j11:=zi ((j11.out.below hb12 j11.out.lt).below k14 (j11.out.below hb12 j11.out.lt).lt);replace hw14:=zi hw14.symm;replace hg14:=zi hg14.symm;clear hb12 hB12 k14 h11 hri11 hB11;go_upto_region 6 with(fail);rw[hw14.out,hg14.out];clear hw14 hg14;have m0:=(fact_of h14.out 0 rfl).2;have m1:=(fact_of h14.out 1 rfl).2;have m2:=(fact_of h14.out 2 rfl).2;have ml:=h14.out.lt
 have cS:Hid (Calls Tryz.prog 60 #[.agg #[.bool true,.slice Ai 4 ki,.slice Ap np kp],.string ⟨#[121]⟩,.agg #[.bool false,.int .i64 0,.int .i64 0]] w14 (RetB w14 memN)):=zi (setVoid_any w14 Ai Ap 4 ki np kp ⟨#[121]⟩);go_wp2_with fail;refine cS.out.mono ?_;clear cS m0 m1 m2 ml;rintro e w15 ⟨rfl,hb15⟩;unfold memN;have hB15:=hB14.out.trans (hb15.mono hB14.out.size);have k16:=below_new w15 (.cells #[.bool false,.slice none 0 0,.slice none 0 0] 56);have j16:=Holds.new w15 56 #[.bool false,.slice none 0 0,.slice none 0 0];obtain⟨w16,hw16⟩:∃y,y=w15.alloc (.cells #[.bool false,.slice none 0 0,.slice none 0 0] 56):=⟨_,rfl⟩;obtain⟨g16,hg16⟩:∃y,y=w15.heap.size:=⟨_,rfl⟩;rw[←hw16]at k16 j16;rw[←hg16]at j16;have hB16:=zi (hB15.trans (k16.mono hB15.size));have kb:Below w14.heap.size w14 w16:=hb15.trans (k16.mono hb15.size);replace j16:=zi j16;have h16:=zi (h14.out.below kb h14.out.lt);replace j8:=zi (j8.out.below kb j8.out.lt);replace j11:=zi (j11.out.below kb j11.out.lt);replace j14:=zi (j14.out.below kb j14.out.lt);replace hw16:=zi hw16.symm;replace hg16:=zi hg16.symm
 clear hb15 hB15 k16 kb h14 hri14 hB14;go_upto_region 7 with(fail);rw[hw16.out,hg16.out];clear hw16 hg16;obtain⟨wq,hwq⟩:∃y,y=w16:=⟨_,rfl⟩;rw[←hwq]at h16 j8 j11 j14 j16 hB16;rw[←hwq];clear hwq
 refine wp_region_tab ((eqw (.pointer (some ⟨gm,0,none⟩)))::(eqw (.bool true))::(eqw (.bool true))::(eqw (.bool true))::(eqw (.bool true))::(eqw (.bool true))::(eqw (.bool true))::(eqw (.bool true))::(eqw (.bool true))::(eqw (.bool true))::(eqw (.bool true))::(eqw (.bool true))::(eqw (.agg #[.bool true,.int .i64 (-9223372036854775808),.int .i64 9223372036854775807]))::(eqw (.agg #[.bool true,.int .i64 (-9223372036854775808),.int .i64 9223372036854775807]))::(eqw (.bool true))::(eqw (.bool true))::(eqw (.bool true))::(eqw (.agg #[.bool true,.int .i64 0,.int .i64 0]))::(eqw (.agg #[.bool true,.int .i64 0,.int .i64 0]))::(eqw (.bool true))::(eqw (.bool true))::(eqw (.bool true))::(eqw (.agg #[.bool true,.int .i64 (-9223372036854775808),.int .i64 9223372036854775807]))::(eqw (.agg #[.bool true,.int .i64 (-9223372036854775808),.int .i64 9223372036854775807]))::(eqw (.bool true))::(eqw (.bool true))::(eqw (.bool true))::(eqw (.pointer (some ⟨g16,0,none⟩)))::(eqw (.bool false))::(eqw (.bool true))::(eqw (.bool true))::(eqw (.bool true))::(eqw (.pointer (some ⟨gm,1,none⟩)))::(eqw (.slice Ai 4 ki))::(eqw (.int .i64 4))::(eqw (.bool true))::(eqw (.bool true))::(eqw (.bool true))::(eqw (.agg #[.bool false,.slice none 0 0,.slice none 0 0]))::(eqw (.bool false))::(eqw (.bool true))::(eqw (.bool true))::(eqw (.bool true))::[])
  ((rn1 4)::(rd1 39 0)::(rd1 40 1)::(rq1 6 41 2)::⟨[(41,some 2),(42,some 3)],0,[]⟩::(rd1 43 4)::(rq1 8 44 5)::⟨[(44,some 5),(45,some 6)],0,[]⟩::(rd1 46 7)::(rq1 10 47 8)::⟨[(47,some 8),(48,some 9)],0,[]⟩::(rd1 49 10)::(rq1 5 50 11)::⟨[(50,some 11)],50,[]⟩::⟨[(51,some 12),(52,some 13),(50,some 11)],50,[]⟩::⟨[(50,some 11),(53,some 14)],0,[]⟩::(rd1 54 15)::(rq1 7 55 16)::⟨[(55,some 16)],55,[]⟩::⟨[(56,some 17),(57,some 18),(55,some 16)],55,[]⟩::⟨[(55,some 16),(58,some 19)],0,[]⟩::(rd1 59 20)::(rq1 9 60 21)::⟨[(60,some 21)],60,[]⟩::⟨[(61,some 22),(62,some 23),(60,some 21)],60,[]⟩::⟨[(60,some 21),(63,some 24)],0,[]⟩::(rd1 64 25)::(rq1 11 65 26)::(rg1 66 27 65 26)::(rg1 67 28 65 26)::⟨[(65,some 26),(68,some 29)],0,[]⟩::(rd1 69 30)::(rq1 4 70 31)::(rg1 71 32 70 31)::(rg1 72 33 70 31)::(rg1 73 34 70 31)::⟨[(70,some 31),(74,some 35)],0,[]⟩::(rd1 75 36)::⟨[(76,some 37)],76,[]⟩::(rg1 77 38 76 37)::(rg1 78 39 76 37)::⟨[(76,some 37),(79,some 40)],0,[]⟩::(rd1 80 41)::[])
  (so 42::no::no::no::no::no::no::no::no::no::no::no::no::no::no::no::no::no::no::no::no::no::no::no::no::no::no::no::no::no::no::no::no::no::no::no::no::no::no::so 0::so 1::so 2::so 3::so 4::so 5::so 6::so 7::so 8::so 9::so 10::so 11::so 12::so 13::so 14::so 15::so 16::so 17::so 18::so 19::so 20::so 21::so 22::so 23::so 24::so 25::so 26::so 27::so 28::so 29::so 30::so 31::so 32::so 33::so 34::so 35::so 36::so 37::so 38::so 39::so 40::so 41::[])
  (fun _ w'=>Below wq.heap.size wq w') (fun _ w w'=>Below w.heap.size w w') ?mixK7 ?okK7 ?tabK7 ?frK7 ?inK7 ?keptK7 ?startK7 ?eachK7 ?finK7
 case mixK7|okK7|tabK7|frK7=>kernel_rfl
 case inK7=>rfl
 case keptK7=>exact⟨fun _ _ _ _ _ _ _ h=>h,fun _ _ _ _ _ _ _ h=>h,fun _ _ _ _ _ _ _ h=>h,fun _ _ _ _ _ _ _ h=>h,fun _ _ _ _ _ _ _ h=>h,fun _ _ _ _ _ _ _ h=>h,fun _ _ _ _ _ _ _ h=>h,fun _ _ _ _ _ _ _ h=>h,fun _ _ _ _ _ _ _ h=>h,fun _ _ _ _ _ _ _ h=>h,fun _ _ _ _ _ _ _ h=>h,fun _ _ _ _ _ _ _ h=>h,fun _ _ _ _ _ _ _ h=>h,fun _ _ _ _ _ _ _ h=>h,fun _ _ _ _ _ _ _ h=>h,fun _ _ _ _ _ _ _ h=>h,fun _ _ _ _ _ _ _ h=>h,fun _ _ _ _ _ _ _ h=>h,fun _ _ _ _ _ _ _ h=>h,fun _ _ _ _ _ _ _ h=>h,fun _ _ _ _ _ _ _ h=>h,fun _ _ _ _ _ _ _ h=>h,fun _ _ _ _ _ _ _ h=>h,fun _ _ _ _ _ _ _ h=>h,fun _ _ _ _ _ _ _ h=>h,fun _ _ _ _ _ _ _ h=>h,fun _ _ _ _ _ _ _ h=>h,fun _ _ _ _ _ _ _ h=>h,fun _ _ _ _ _ _ _ h=>h,fun _ _ _ _ _ _ _ h=>h,fun _ _ _ _ _ _ _ h=>h,fun _ _ _ _ _ _ _ h=>h,fun _ _ _ _ _ _ _ h=>h,fun _ _ _ _ _ _ _ h=>h,fun _ _ _ _ _ _ _ h=>h,fun _ _ _ _ _ _ _ h=>h,fun _ _ _ _ _ _ _ h=>h,fun _ _ _ _ _ _ _ h=>h,fun _ _ _ _ _ _ _ h=>h,fun _ _ _ _ _ _ _ h=>h,fun _ _ _ _ _ _ _ h=>h,fun _ _ _ _ _ _ _ h=>h,fun _ _ _ _ _ _ _ h=>h,trivial⟩
 case startK7=>exact(Below.refl _ _).drew
 case eachK7=>
  repeat' first|exact trivial|refine And.intro ?_ ?_
  iterate 2 (intro w L f hC hLi hLd hLn ⟨a,_⟩;change _=_ at a;refine Step2.live rfl ?_;have hh:=h16.out.below hC h16.out.lt;have hlt:=hh.lt;have f0:=(fact_of hh 0 rfl).2;have f1:=(fact_of hh 1 rfl).2;have f2:=(fact_of hh 2 rfl).2;obtain⟨ev,ec,ef⟩:=evs f;refine relUpon_value ?_ hC (Below.refl _ _) rfl;go_simp)
  ·intro w L f hC hLi hLd hLn ⟨d,_⟩;refine Step2.live rfl ?_;exact relUpon_value (v:=f 40) rfl (hC) (Below.refl _ _) d
  ·intro w L f hC hLi hLd hLn ⟨d6,d41,_⟩;change _=_ at d6 d41;refine Step2.live (show wantedBy _ (f 41)=true by rw[d41];rfl) ?_;exact relUpon_value (v:=f 6) rfl (hC) (Below.refl _ _) d6
  ·intro w L f hC hLi hLd hLn ⟨a,b,_⟩;change _=_ at a b;refine Step2.live rfl ?_;obtain⟨ev,ec,ef⟩:=evs f;refine relUpon_value ?_ (hC) (Below.refl _ _) rfl;go_simp
  ·intro w L f hC hLi hLd hLn ⟨d,_⟩;refine Step2.live rfl ?_;exact relUpon_value (v:=f 43) rfl (hC) (Below.refl _ _) d
  ·intro w L f hC hLi hLd hLn ⟨d8,d44,_⟩;change _=_ at d8 d44;refine Step2.live (show wantedBy _ (f 44)=true by rw[d44];rfl) ?_;exact relUpon_value (v:=f 8) rfl (hC) (Below.refl _ _) d8
  ·intro w L f hC hLi hLd hLn ⟨a,b,_⟩;change _=_ at a b;refine Step2.live rfl ?_;obtain⟨ev,ec,ef⟩:=evs f;refine relUpon_value ?_ (hC) (Below.refl _ _) rfl;go_simp
  ·intro w L f hC hLi hLd hLn ⟨d,_⟩;refine Step2.live rfl ?_;exact relUpon_value (v:=f 46) rfl (hC) (Below.refl _ _) d
  ·intro w L f hC hLi hLd hLn ⟨d10,d47,_⟩;change _=_ at d10 d47;refine Step2.live (show wantedBy _ (f 47)=true by rw[d47];rfl) ?_;exact relUpon_value (v:=f 10) rfl (hC) (Below.refl _ _) d10
  ·intro w L f hC hLi hLd hLn ⟨a,b,_⟩;change _=_ at a b;refine Step2.live rfl ?_;obtain⟨ev,ec,ef⟩:=evs f;refine relUpon_value ?_ (hC) (Below.refl _ _) rfl;go_simp
  ·intro w L f hC hLi hLd hLn ⟨d,_⟩;refine Step2.live rfl ?_;exact relUpon_value (v:=f 49) rfl (hC) (Below.refl _ _) d
  ·intro w L f hC hLi hLd hLn ⟨a,d50,_⟩;change _=_ at a d50;refine Step2.live (show wantedBy _ (f 50)=true by rw[d50];rfl) ?_;have hh:=j8.out.below hC j8.out.lt;have hlt:=hh.lt;have f0:=(fact_of hh 0 rfl).2;have f1:=(fact_of hh 1 rfl).2;have f2:=(fact_of hh 2 rfl).2;obtain⟨ev,ec,ef⟩:=evs f;refine relUpon_value ?_ hC (Below.refl _ _) rfl;go_simp
  ·intro w L f hC hLi hLd hLn ⟨d50,_⟩;change _=_ at d50;refine Step2.live (show wantedBy _ (f 50)=true by rw[d50];rfl) ?_;obtain⟨ev,ec,ef⟩:=evs f;refine relUpon_call (f:=61) (args:= #[]) (w:=w) (by go_simp) (refTop_any w) ?_;rintro e w1 ⟨he,hB⟩;exact⟨_,he,hC.trans (hB.mono hC.size),hB,rfl⟩
  ·intro w L f hC hLi hLd hLn ⟨a,b,d50,_⟩;change _=_ at a b d50;refine Step2.live (show wantedBy _ (f 50)=true by rw[d50];rfl) ?_;obtain⟨ev,ec,ef⟩:=evs f;refine relUpon_value ?_ (hC) (Below.refl _ _) rfl;go_simp
  ·intro w L f hC hLi hLd hLn ⟨a,b,_⟩;change _=_ at a b;refine Step2.live rfl ?_;obtain⟨ev,ec,ef⟩:=evs f;refine relUpon_value ?_ (hC) (Below.refl _ _) rfl;go_simp
  ·intro w L f hC hLi hLd hLn ⟨d,_⟩;refine Step2.live rfl ?_;exact relUpon_value (v:=f 54) rfl (hC) (Below.refl _ _) d
  ·intro w L f hC hLi hLd hLn ⟨a,d55,_⟩;change _=_ at a d55;refine Step2.live (show wantedBy _ (f 55)=true by rw[d55];rfl) ?_;have hh:=j11.out.below hC j11.out.lt;have hlt:=hh.lt;have f0:=(fact_of hh 0 rfl).2;have f1:=(fact_of hh 1 rfl).2;have f2:=(fact_of hh 2 rfl).2;obtain⟨ev,ec,ef⟩:=evs f;refine relUpon_value ?_ hC (Below.refl _ _) rfl;go_simp
  ·intro w L f hC hLi hLd hLn ⟨d55,_⟩;change _=_ at d55;refine Step2.live (show wantedBy _ (f 55)=true by rw[d55];rfl) ?_;obtain⟨ev,ec,ef⟩:=evs f;refine relUpon_call (f:=62) (args:= #[.int .i64 0,.int .i64 0]) (w:=w) (by go_simp) (refOf_any w 0 0 (by decide)) ?_;rintro e w1 ⟨he,hB⟩;exact⟨_,he,hC.trans (hB.mono hC.size),hB,rfl⟩
  ·intro w L f hC hLi hLd hLn ⟨a,b,d55,_⟩;change _=_ at a b d55;refine Step2.live (show wantedBy _ (f 55)=true by rw[d55];rfl) ?_;obtain⟨ev,ec,ef⟩:=evs f;refine relUpon_value ?_ (hC) (Below.refl _ _) rfl;go_simp
  ·intro w L f hC hLi hLd hLn ⟨a,b,_⟩;change _=_ at a b;refine Step2.live rfl ?_;obtain⟨ev,ec,ef⟩:=evs f;refine relUpon_value ?_ (hC) (Below.refl _ _) rfl;go_simp
  ·intro w L f hC hLi hLd hLn ⟨d,_⟩;refine Step2.live rfl ?_;exact relUpon_value (v:=f 59) rfl (hC) (Below.refl _ _) d
  ·intro w L f hC hLi hLd hLn ⟨a,d60,_⟩;change _=_ at a d60;refine Step2.live (show wantedBy _ (f 60)=true by rw[d60];rfl) ?_;have hh:=j14.out.below hC j14.out.lt;have hlt:=hh.lt;have f0:=(fact_of hh 0 rfl).2;have f1:=(fact_of hh 1 rfl).2;have f2:=(fact_of hh 2 rfl).2;obtain⟨ev,ec,ef⟩:=evs f;refine relUpon_value ?_ hC (Below.refl _ _) rfl;go_simp
  ·intro w L f hC hLi hLd hLn ⟨d60,_⟩;change _=_ at d60;refine Step2.live (show wantedBy _ (f 60)=true by rw[d60];rfl) ?_;obtain⟨ev,ec,ef⟩:=evs f;refine relUpon_call (f:=61) (args:= #[]) (w:=w) (by go_simp) (refTop_any w) ?_;rintro e w1 ⟨he,hB⟩;exact⟨_,he,hC.trans (hB.mono hC.size),hB,rfl⟩
  ·intro w L f hC hLi hLd hLn ⟨a,b,d60,_⟩;change _=_ at a b d60;refine Step2.live (show wantedBy _ (f 60)=true by rw[d60];rfl) ?_;obtain⟨ev,ec,ef⟩:=evs f;refine relUpon_value ?_ (hC) (Below.refl _ _) rfl;go_simp
  ·intro w L f hC hLi hLd hLn ⟨a,b,_⟩;change _=_ at a b;refine Step2.live rfl ?_;obtain⟨ev,ec,ef⟩:=evs f;refine relUpon_value ?_ (hC) (Below.refl _ _) rfl;go_simp
  ·intro w L f hC hLi hLd hLn ⟨d,_⟩;refine Step2.live rfl ?_;exact relUpon_value (v:=f 64) rfl (hC) (Below.refl _ _) d
  iterate 2 (intro w L f hC hLi hLd hLn ⟨a,d65,_⟩;change _=_ at a d65;refine Step2.live (show wantedBy _ (f 65)=true by rw[d65];rfl) ?_;have hh:=j16.out.below hC j16.out.lt;have hlt:=hh.lt;have f0:=(fact_of hh 0 rfl).2;have f1:=(fact_of hh 1 rfl).2;have f2:=(fact_of hh 2 rfl).2;obtain⟨ev,ec,ef⟩:=evs f;refine relUpon_value ?_ hC (Below.refl _ _) rfl;go_simp)
  ·intro w L f hC hLi hLd hLn ⟨a,d65,_⟩;change _=_ at a d65;refine Step2.live (show wantedBy _ (f 65)=true by rw[d65];rfl) ?_;obtain⟨ev,ec,ef⟩:=evs f;refine relUpon_value ?_ (hC) (Below.refl _ _) rfl;go_simp
  ·intro w L f hC hLi hLd hLn ⟨a,b,_⟩;change _=_ at a b;refine Step2.live rfl ?_;obtain⟨ev,ec,ef⟩:=evs f;refine relUpon_value ?_ (hC) (Below.refl _ _) rfl;go_simp
  ·intro w L f hC hLi hLd hLn ⟨d,_⟩;refine Step2.live rfl ?_;exact relUpon_value (v:=f 69) rfl (hC) (Below.refl _ _) d
  iterate 2 (intro w L f hC hLi hLd hLn ⟨a,d70,_⟩;change _=_ at a d70;refine Step2.live (show wantedBy _ (f 70)=true by rw[d70];rfl) ?_;have hh:=h16.out.below hC h16.out.lt;have hlt:=hh.lt;have f0:=(fact_of hh 0 rfl).2;have f1:=(fact_of hh 1 rfl).2;have f2:=(fact_of hh 2 rfl).2;obtain⟨ev,ec,ef⟩:=evs f;refine relUpon_value ?_ hC (Below.refl _ _) rfl;go_simp)
  iterate 2 (intro w L f hC hLi hLd hLn ⟨a,d70,_⟩;change _=_ at a d70;refine Step2.live (show wantedBy _ (f 70)=true by rw[d70];rfl) ?_;obtain⟨ev,ec,ef⟩:=evs f;refine relUpon_value ?_ (hC) (Below.refl _ _) rfl;go_simp)
  ·intro w L f hC hLi hLd hLn ⟨a,b,_⟩;change _=_ at a b;refine Step2.live rfl ?_;obtain⟨ev,ec,ef⟩:=evs f;refine relUpon_value ?_ (hC) (Below.refl _ _) rfl;go_simp
  ·intro w L f hC hLi hLd hLn ⟨d,_⟩;refine Step2.live rfl ?_;exact relUpon_value (v:=f 75) rfl (hC) (Below.refl _ _) d
  ·intro w L f hC hLi hLd hLn ⟨d76,_⟩;change _=_ at d76;refine Step2.live (show wantedBy _ (f 76)=true by rw[d76];rfl) ?_;obtain⟨ev,ec,ef⟩:=evs f;refine relUpon_call (f:=63) (args:= #[]) (w:=w) (by go_simp) (memNone_any w) ?_;rintro e w1 ⟨he,hB⟩;exact⟨_,he,hC.trans (hB.mono hC.size),hB,rfl⟩
  ·intro w L f hC hLi hLd hLn ⟨a,d76,_⟩;change _=_ at a d76;refine Step2.live (show wantedBy _ (f 76)=true by rw[d76];rfl) ?_;obtain⟨ev,ec,ef⟩:=evs f;refine relUpon_value ?_ hC (Below.refl _ _) rfl;go_simp;simp[Instr.field,run_underlying Tryz.underlying56,run_underlying Tryz.underlying4,asAgg,part,isAgg]
  ·intro w L f hC hLi hLd hLn ⟨a,d76,_⟩;change _=_ at a d76;refine Step2.live (show wantedBy _ (f 76)=true by rw[d76];rfl) ?_;obtain⟨ev,ec,ef⟩:=evs f;refine relUpon_value ?_ (hC) (Below.refl _ _) rfl;go_simp
  ·intro w L f hC hLi hLd hLn ⟨a,b,_⟩;change _=_ at a b;refine Step2.live rfl ?_;obtain⟨ev,ec,ef⟩:=evs f;refine relUpon_value ?_ (hC) (Below.refl _ _) rfl;go_simp
  ·intro w L f hC hLi hLd hLn ⟨d,_⟩;refine Step2.live rfl ?_;exact relUpon_value (v:=f 80) rfl (hC) (Below.refl _ _) d
 intro x w' hC hV
 obtain⟨vv,hvv⟩:∃v,v=x 42:=⟨_,rfl⟩;have e0:=hV 42 _ rfl rfl;rw[←hvv]at e0;simp only[framed];rw[←hvv];clear hvv hV;have hfin:=zi (hB16.out.trans (hC.mono hB16.out.size));clear hC h16 j8 j11 j14 j16;subst e0;go_wp2_with fail;go_ret;exact⟨rfl,hfin.out⟩
inductive GIt where
 |cell (x:S)
 |arr (x d:S)
def GIt.toks:GIt→List (Nat×S)
 | .cell x=> [(0,[99,101,108,108]),(0,x),(2,[59])]
 | .arr x d=> [(0,[97,114,114,97,121]),(0,x),(2,[91]),(1,d),(2,[93]),(2,[59])]
def GIt.Ok:GIt→Prop
 | .cell x=>wordF x=false
 | .arr x d=>wordF x=false∧0<numF d 0∧numF d 0≤1048576
def GIt.cells:GIt→List S
 | .cell x=> [x]
 | .arr _ _=> []
def GIt.arrs:GIt→Nat
 | .cell _=>0
 | .arr _ _=>1
def gCells (l:List GIt):List S:=l.flatMap GIt.cells
def gArrs (l:List GIt):Nat:=(l.map GIt.arrs).sum
def gOff (l:List GIt):Nat:=(l.flatMap GIt.toks).length
def tkOf (t:Tok):Nat×S:=(t.k,t.t)
theorem gOff_snoc (l:List GIt) (x:GIt):gOff (l++ [x])=gOff l+x.toks.length:=by simp[gOff]
theorem gCells_len (l:List GIt):(gCells l).length≤l.length:=by
 induction l with
 |nil=>simp[gCells]
 |cons x l ih=>
  have:x.cells.length≤1:=by cases x<;>simp[GIt.cells]
  simp only[gCells,List.flatMap_cons,List.length_append,List.length_cons]at ih⊢;omega
theorem gArrs_len (l:List GIt):gArrs l≤l.length:=by
 induction l with
 |nil=>simp[gArrs]
 |cons x l ih=>
  have:x.arrs≤1:=by cases x<;>simp[GIt.arrs]
  simp only[gArrs,List.map_cons,List.sum_cons,List.length_cons]at ih⊢;omega
section
variable {C:PC} {s:PS} {x:Tok}
theorem is_at (he:s.e=0) (hx:C.tk[s.i]? =some x) (t:S):isF C t s=(x.k !=1&&x.t==t):=by
 unfold isF;rw[hx,he];simp
theorem named_at (he:s.e=0) (hx:C.tk[s.i]? =some x):namedF C s=(x.k==0&& !wordF x.t):=by
 unfold namedF;rw[hx,he];simp
theorem name_at (h:namedF C s=true) (hx:C.tk[s.i]? =some x):nameF C s=(x.t,s.next):=by
 unfold nameF;rw[if_pos h,hx]
theorem want_at {t:S} (h:isF C t s=true):wantF C t s=s.next:=by
 unfold wantF;rw[if_pos h]
end
theorem tok_item {tk:List Tok} {items:List GIt} (hT:tk.map tkOf=items.flatMap GIt.toks) {j r:Nat} (hj:j<items.length) {u:Nat×S} (hr:items[j].toks[r]? =some u):
  ∃x,tk[gOff (items.take j)+r]? =some x∧x.k=u.1∧x.t=u.2:=by
 have e:items.flatMap GIt.toks=(items.take j).flatMap GIt.toks++(items[j].toks++(items.drop (j+1)).flatMap GIt.toks):=by
  conv=>lhs;rw[←List.take_append_drop j items,List.drop_eq_getElem_cons hj]
  rw[List.flatMap_append,List.flatMap_cons]
 have h1:(tk.map tkOf)[gOff (items.take j)+r]? =some u:=by rw[hT,e,List.getElem?_append_right (by unfold gOff;omega)];unfold gOff;rw[Nat.add_sub_cancel_left,List.getElem?_append_left (List.getElem?_eq_some_iff.1 hr).1];exact hr
 rw[List.getElem?_map]at h1;obtain⟨x,hx,hu⟩:=Option.map_eq_some_iff.1 h1;exact⟨x,hx,by rw[←hu];rfl,by rw[←hu];rfl⟩
structure VG (C:PC) (Z:PL) (gg B:Nat) (s:PS) (A1 A2:Option Addr) (c1 c2:Nat) (cs:List S) (na:Nat) (w0 w:World):Prop where
 at_:PAt C Z s w
 wr:Writes [some Z.g,some gg] w0 w
 hold:Holds w gg 48 #[.slice A1 cs.length c1,.slice A2 na c2]
 own1:w.ownsRow B 9 1 (.slice A1 cs.length c1) cs.length (cs.map encStr)
 own2:∃xs,w.ownsRow B 126 2 (.slice A2 na c2) na xs
 lt:Z.g<gg
 low:gg<B
 low0:w0.heap.size=B
section
variable {C:PC} {Z:PL} {gg B c1 c2 na:Nat} {s s2:PS} {A1 A2:Option Addr} {cs:List S} {w0 w w':World}
theorem VG.mv (h:VG C Z gg B s A1 A2 c1 c2 cs na w0 w):Moved C Z s w w:=Moved.refl h.at_
theorem VG.szB (h:VG C Z gg B s A1 A2 c1 c2 cs na w0 w):B≤w.heap.size:=by rw[←h.low0];exact h.wr.size
theorem VG.call (h:VG C Z gg B s A1 A2 c1 c2 cs na w0 w) (hm:Moved C Z s2 w w'):VG C Z gg B s2 A1 A2 c1 c2 cs na w0 w':=
 ⟨hm.at_,h.wr.trans (hm.wr.more (by simp)),hm.wr.holds h.hold (by have:=h.lt;simp;omega),own_pw h.own1 hm.wr (Nat.lt_trans h.lt h.low),h.own2.imp fun _ ho=>own_pw ho hm.wr (Nat.lt_trans h.lt h.low),h.lt,h.low,h.low0⟩
theorem VG.up (h:VG C Z gg B s A1 A2 c1 c2 cs na w0 w) (hb:Below w.heap.size w w'):VG C Z gg B s A1 A2 c1 c2 cs na w0 w':=h.call (h.mv.below hb)
theorem VG.facts (h:VG C Z gg B s A1 A2 c1 c2 cs na w0 w):gg<w.heap.size∧(∀i,w.frozen? ⟨gg,i,none⟩=false)∧w.cell? ⟨gg,0,none⟩=some (.slice A1 cs.length c1)∧w.cell? ⟨gg,1,none⟩=some (.slice A2 na c2):=⟨h.hold.lt,fun i=>h.hold.frozen i,h.hold.cell 0,h.hold.cell 1⟩
theorem VG.box (h:VG C Z gg B s A1 A2 c1 c2 cs na w0 w) {v:Value} (hv:∀k,v.ownBlock=some k→B≤k) (hg:w.grownBy w' v.ownBlock):gg<w'.heap.size∧(∀i,w'.frozen? ⟨gg,i,none⟩=false)∧w'.cell? ⟨gg,0,none⟩=some (.slice A1 cs.length c1)∧w'.cell? ⟨gg,1,none⟩=some (.slice A2 na c2):=by
 have hh:=(Writes.of_grown hg (M:= [v.ownBlock]) (by simp)).holds h.hold (fun hm=>by
  simp only[List.mem_cons,List.not_mem_nil,or_false]at hm;have:=hv gg hm.symm;have:=h.low
  omega)
 exact⟨hh.lt,fun i=>hh.frozen i,hh.cell 0,hh.cell 1⟩
theorem VG.tight (h:VG C Z gg B s A1 A2 c1 c2 cs na w0 w):(∀k,(.slice A1 cs.length c1:Value).ownBlock=some k→B≤k)∧∀k,(.slice A2 na c2:Value).ownBlock=some k→B≤k:=
 ⟨fun _ hk=>ownK_ge h.own1 hk,fun _ hk=>by obtain⟨xs,h2⟩:=h.own2;exact ownK_ge h2 hk⟩
theorem VG.cell (h:VG C Z gg B s A1 A2 c1 c2 cs na w0 w) {A:Option Addr} {c:Nat} {cs':List S} (ho:w'.ownsRow B 9 1 (.slice A cs'.length c) cs'.length (cs'.map encStr)) (hg:w.grownBy w' (.slice A1 cs.length c1:Value).ownBlock):
  VG C Z gg B s A A2 c c2 cs' na w0 (w'.setCell ⟨gg,0,none⟩ (.slice A cs'.length c)):=by
 have hW:Writes [(.slice A1 cs.length c1:Value).ownBlock] w w':=Writes.of_grown hg (by simp);obtain⟨xs,h2⟩:=h.own2
 have hn:∀k,some k∈[(.slice A1 cs.length c1:Value).ownBlock]→B≤k:=fun k hm=>by simp only[List.mem_cons,List.not_mem_nil,or_false]at hm;exact ownK_ge h.own1 hm.symm
 have hst:=Writes.store w' (M:= [some gg]) (p:=⟨gg,0,none⟩) (by simp) (.slice A cs'.length c);refine⟨(h.at_.writes hW fun k hk=> ?_).writes hst fun k hk=>by simp at hk;subst hk;exact h.lt,(h.wr.then_ hW fun k hk hm=> ?_).trans (hst.more (by simp)),?_,own_pw ho hst h.low,⟨xs,own_pw (own_other h2 h.own1 (by decide) hg) hst h.low⟩,h.lt,h.low,h.low0⟩
 ·exact Nat.lt_of_lt_of_le (Nat.lt_trans h.lt h.low) (hn k hk)
 ·have:=hn k hm;have:=h.low0;omega
 ·have:=(hW.holds h.hold (fun hm=>by have:=hn gg hm;have:=h.low;omega)).store 0 (.slice A cs'.length c);simpa using this
theorem VG.arr (h:VG C Z gg B s A1 A2 c1 c2 cs na w0 w) {A:Option Addr} {c:Nat} {na':Nat} {xs':List Value} (ho:w'.ownsRow B 126 2 (.slice A na' c) na' xs') (hg:w.grownBy w' (.slice A2 na c2:Value).ownBlock):
  VG C Z gg B s A1 A c1 c cs na' w0 (w'.setCell ⟨gg,1,none⟩ (.slice A na' c)):=by
 have hW:Writes [(.slice A2 na c2:Value).ownBlock] w w':=Writes.of_grown hg (by simp);obtain⟨xs,h2⟩:=h.own2
 have hn:∀k,some k∈[(.slice A2 na c2:Value).ownBlock]→B≤k:=fun k hm=>by simp only[List.mem_cons,List.not_mem_nil,or_false]at hm;exact ownK_ge h2 hm.symm
 have hst:=Writes.store w' (M:= [some gg]) (p:=⟨gg,1,none⟩) (by simp) (.slice A na' c);refine⟨(h.at_.writes hW fun k hk=> ?_).writes hst fun k hk=>by simp at hk;subst hk;exact h.lt,(h.wr.then_ hW fun k hk hm=> ?_).trans (hst.more (by simp)),?_,own_pw (own_other h.own1 h2 (by decide) hg) hst h.low,⟨xs',own_pw ho hst h.low⟩,h.lt,h.low,h.low0⟩
 ·exact Nat.lt_of_lt_of_le (Nat.lt_trans h.lt h.low) (hn k hk)
 ·have:=hn k hm;have:=h.low0;omega
 ·have:=(hW.holds h.hold (fun hm=>by have:=hn gg hm;have:=h.low;omega)).store 1 (.slice A na' c);simpa using this
theorem VG.cell' (h:VG C Z gg B s A1 A2 c1 c2 cs na w0 w) {A:Option Addr} {c:Nat} {x:S} (ho:w'.ownsRow B 9 1 (.slice A (cs.length+1) c) (cs.length+1) (cs.map encStr++ [.string (strV x)])) (hg:w.grownBy w' (.slice A1 cs.length c1:Value).ownBlock):
  VG C Z gg B s A A2 c c2 (cs++ [x]) na w0 (w'.setCell ⟨gg,0,none⟩ (.slice A (cs.length+1) c)):=by
 have e:(cs++ [x]).length=cs.length+1:=by simp
 have:=h.cell (cs':=cs++ [x]) (A:=A) (c:=c) (by rw[e,List.map_append];exact ho) hg;rw[e]at this;exact this
theorem VG.next (h:VG C Z gg B s A1 A2 c1 c2 cs na w0 w) (hi:s.i<C.tk.length):VG C Z gg B s.next A1 A2 c1 c2 cs na w0 (w.setCell ⟨Z.g,1,none⟩ (.int .i64 ((s.i:Int)+1))):=h.call (h.mv.next hi)
theorem own_rowS4' {w:World} {base:Nat} {e:TypeId} {v:Value} {n k:Nat} {xs:List Value} (h:w.ownsRow base e k v n xs):∃A c,v= .slice A n c∧n≤c∧n≤c:=by
 rcases h.2 with⟨rfl,rfl⟩| ⟨g,cap,cur,rfl,_,_,hn,_⟩
 ·exact⟨none,0,rfl,Nat.le_refl _,Nat.le_refl _⟩
 ·exact⟨_,cap,rfl,hn,hn⟩
theorem rowS_fresh1 (w:World) (t:TypeId) (vs:List Value):RowS (w.alloc (.cells vs.toArray t)) Evr (some ⟨w.heap.size,0,none⟩) vs:=RowS.fresh w t vs
end
theorem Tryz.clArr:(Tryz.prog.info? 126).map (fun i=>(i.zero,i.size,i.bytes))=some (some (.agg #[.string ⟨#[]⟩,.int .i64 0]),2,24):=by kernel_rfl
theorem Tryz.sGl:(Tryz.prog.info? 48).map (·.size)=some 2:=by kernel_rfl
def GlPost (cs:List S) (w:World) (e:Ending) (w':World):Prop:=
 ∃A1 c1 A2 n2 c2,e= .returned (.tuple #[.agg #[.slice A1 cs.length c1,.slice A2 n2 c2],.int .i64 0,.int .i64 0])∧Row w' w'.heap.size A1 (cs.map encStr)∧cs.length≤c1∧Below w.heap.size w w'
theorem globals_any (w:World) (s:ByteArray) (hs:s.size≤maxLen) (tk:List Tok) (items:List GIt) (hl:lexF s.data.toList=(tk,0,0)) (hT:tk.map tkOf=items.flatMap GIt.toks) (hok:∀it∈items,it.Ok) (hn:items.length≤4):
  Calls Tryz.prog 22 #[.string s] w (GlPost (gCells items) w):=by
 obtain⟨iS,hiS,hzS0,hzS1,hzS2⟩:=info_parts Tryz.clStr;obtain⟨iA,hiA,hzA0,hzA1,hzA2⟩:=info_parts Tryz.clArr;have htk:=fun w=>tokens_any w s hs;rw[hl]at htk;replace htk:=zi htk;have hs':=hs;unfold maxLen at hs';obtain⟨wr,hwr⟩:∃x,x=w.alloc (.cells #[.slice none 0 0,.slice none 0 0] 48):=⟨_,rfl⟩;obtain⟨gr,hgr⟩:∃x,x=w.heap.size:=⟨_,rfl⟩
 have hHr:Holds wr gr 48 #[.slice none 0 0,.slice none 0 0]:=by rw[hwr,hgr];exact Holds.new w _ _
 have hb0:Below w.heap.size w wr:=by rw[hwr];exact below_new w _
 have hszr:wr.heap.size=w.heap.size+1:=by rw[hwr];simp
 have hfit:(⟨tk,s.data.toList.length⟩:PC).Fit:=by have:=lexF_fit s.data.toList (by rw[hl]);rw[hl]at this;exact this
 replace hl:=zi hl;go_enter Tryz.func22,Tryz.ntmps22;go_wp2_with fail;rw[←hwr,←hgr];clear hwr;replace hHr:=zi hHr;replace hb0:=zi hb0;refine(htk.out wr).mono ?_;clear htk;rintro e w1 ⟨A,c,rfl,hrow,hlc,hb1⟩
 have hgrw:gr<wr.heap.size:=by omega
 have hgw:w.heap.size≤gr:=by omega
 have hHr1:=hHr.out.below hb1 hgrw;have hB1:=hb0.out.trans (hb1.mono (by omega));replace hgr:=zi hgr;replace hszr:=zi hszr;clear hHr hb0 hb1;obtain⟨C,hC⟩:∃C:PC,C=⟨tk,s.data.toList.length⟩:=⟨_,rfl⟩;obtain⟨g,hg⟩:∃x,x=w1.heap.size:=⟨_,rfl⟩;obtain⟨Z,hZ⟩:∃Z:PL,Z=⟨g,A,c⟩:=⟨_,rfl⟩;obtain⟨w2,hw2⟩:∃x,x=w1.alloc (.cells ((⟨0,0,0,0,0⟩:PS).cells C Z) 70):=⟨_,rfl⟩;obtain⟨w3,hw3⟩:∃x,x=w2.alloc (.cells #[.slice none 0 0,.slice none 0 0] 48):=⟨_,rfl⟩;obtain⟨gf,hgf⟩:∃x,x=w2.heap.size:=⟨_,rfl⟩;obtain⟨B,hB⟩:∃x,x=w3.heap.size:=⟨_,rfl⟩
 have hz2:w2.heap.size=w1.heap.size+1:=by rw[hw2];simp
 have hz3:w3.heap.size=w2.heap.size+1:=by rw[hw3];simp
 have hb2:Below w1.heap.size w1 w2:=by rw[hw2];exact below_new w1 _
 have hb3:Below w2.heap.size w2 w3:=by rw[hw3];exact below_new w2 _
 rw[←hC]at hfit;have hP2:PAt C Z ⟨0,0,0,0,0⟩ w2:=⟨hfit,⟨by simp,by simp,by simp,by simp,by simp⟩,by have:=Holds.new w1 70 ((⟨0,0,0,0,0⟩:PS).cells C Z);rw[←hw2]at this;rw[show Z.g=w1.heap.size by rw[hZ];exact hg];exact this,by rw[show Z.g=w1.heap.size by rw[hZ];exact hg,show Z.A=A by rw[hZ],show C.tk=tk by rw[hC]];exact hrow.keep fun p hp=>hb2.cell hp⟩;have hVG:Hid (VG C Z gf B ⟨0,0,0,0,0⟩ none none 0 0 [] 0 w3 w3):=zi ⟨hP2.up hb3,Writes.refl _ _,by rw[hgf,hw3];exact Holds.new w2 _ _,World.ownsRow_nil _ _ _ _,⟨[],World.ownsRow_nil _ _ _ _⟩,by rw[hZ];simp only;omega,by omega,hB.symm⟩;have hHr3:Hid (Holds w3 gr 48 #[.slice none 0 0,.slice none 0 0]):=zi ((hHr1.below hb2 hHr1.lt).below hb3 (by have:=hHr1.lt;omega));have hB3:Hid (Below w.heap.size w w3):=zi (hB1.trans ((hb2.trans (hb3.mono hb2.size)).mono hB1.size))
 have hgr3:gr<g:=by have:=hHr1.lt;omega
 have hZg:Hid (Z.g=g):=zi (by rw[hZ])
 have hw3e:Hid ((w1.alloc (.cells #[.slice A tk.length c,.int .i64 0,.int .i64 s.size,.int .i64 0,.int .i64 0,.int .i64 0,.int .i64 0] 70)).alloc (.cells #[.slice none 0 0,.slice none 0 0] 48)=w3):=zi (by
  rw[hw3,hw2,hZ,hC]
  rfl)
 have hCt:Hid (C.tk=tk):=zi (by rw[hC]);replace hT:Hid (C.tk.map tkOf=items.flatMap GIt.toks):=zi (by rw[hC];exact hT)
 have hg2:w1.heap.size=Z.g:=by rw[hZg.out];exact hg.symm
 have hgf1:w1.heap.size+1=gf:=by omega
 replace hB:=zi hB;replace hZ:=zi hZ;replace hg2:=zi hg2;replace hgf1:=zi hgf1;replace hok:=zi hok;have hrz:Hid (gr<Z.g∧w.heap.size≤gr∧Z.g<B∧w.heap.size≤Z.g):=zi (by have:=hVG.out.lt;have:=hVG.out.low;have:=hZg.out;omega);clear hw3 hw2 hz2 hz3 hb2 hb3 hC hP2 hHr1 hB1 hrow hfit hgf hg hgr3 hgrw hgw hZ;go_upto_region 6 with(fail);rw[hgf1.out,hg2.out,hw3e.out];clear hgf1 hg2 hw3e;obtain⟨N,hN⟩:∃y,y=items.length:=⟨_,rfl⟩;rw[←hN]at hn;replace hN:=zi hN;go_loopw [] (fun wr=>∃(j:Nat) (A1 A2:Option Addr) (c1 c2:Nat),j≤N∧Hid (VG C Z gf B ⟨gOff (items.take j),0,0,0,0⟩ A1 A2 c1 c2 (gCells (items.take j)) (gArrs (items.take j)) w3 wr)) (fun wr=>left2 Z wr)
 case atStart=>exact⟨0,none,none,0,0,Nat.zero_le _,hVG⟩
 clear hVG;obtain⟨j,A1,A2,c1,c2,hj,hV⟩:=hrel;rename World=>wl;have hoff:Hid (C.tk.length=gOff items):=zi (by have:=congrArg List.length hT.out;rw[List.length_map]at this;exact this);by_cases hlt:j<N
 ·have hjl:j<items.length:=by rw[←hN.out];exact hlt
  have htk:=List.take_succ_eq_append_getElem hjl;have hitok:=hok.out items[j] (List.getElem_mem hjl);have htoks:Hid (∀(r:Nat) (u:Nat×S),items[j].toks[r]? =some u→∃x,C.tk[gOff (items.take j)+r]? =some x∧x.k=u.1∧x.t=u.2):=zi fun r u hr=>tok_item hT.out hjl hr;generalize items[j]=it at htk hitok htoks;obtain⟨P,hP⟩:∃y,y=items.take j:=⟨_,rfl⟩;rw[←hP]at hV htk htoks;have hPl:Hid (P.length=j):=zi (by rw[hP,List.length_take,Nat.min_eq_left (Nat.le_of_lt hjl)]);replace hP:=zi hP;replace htk:=zi htk;obtain⟨cs,hcs⟩:∃y,y=gCells P:=⟨_,rfl⟩;obtain⟨na,hna⟩:∃y,y=gArrs P:=⟨_,rfl⟩
  have hcl:cs.length≤4:=by rw[hcs];have:=gCells_len P;have:=hPl.out;omega
  have hnl:na≤4:=by rw[hna];have:=gArrs_len P;have:=hPl.out;omega
  have hsum:cs.length+na<20:=by omega
  rw[←hcs,←hna]at hV;obtain⟨o,ho⟩:∃y,y=gOff P:=⟨_,rfl⟩;rw[←ho]at hV htoks;replace hcs:=zi hcs;replace hna:=zi hna;replace ho:=zi ho
  obtain⟨x0,hx0⟩:∃x,C.tk[o]? =some x:=by
   cases it
   all_goals (obtain⟨x,h,-,-⟩:=htoks.out 0 _ rfl;exact⟨x,h⟩)
  have hoi:o<C.tk.length:=(List.getElem?_eq_some_iff.1 hx0).1;have hV0:=hV;obtain⟨a0,e0,e1,e2,e3,e4,e5,e6,efz⟩:=hV.out.mv.facts;obtain⟨b1,b2,b3,b4,b5,b6,b7⟩:=hV.out.at_.bounds
  have hi2:decide (o<C.tk.length)=true:=by simpa using hoi
  go_wp2_with fail;go_quiet (fail);have hV:=zi (hV.out.up (below_drewN (Below.refl wl.heap.size wl) nq));obtain⟨w2,hw2⟩:∃y,y=wl.drewN nq:=⟨_,rfl⟩;rw[←hw2]at hV⊢;have hl0:Hid (left2 Z wl=2*(5000-o)+1):=zi (by rw[hV0.out.mv.left2];rfl);clear hw2 e0 e1 e2 e3 e4 e5 e6 efz a0 hi2 hx0
  cases it with
  |cell x=>
   obtain⟨y0,q0,k0,t0⟩:=htoks.out 0 _ rfl;obtain⟨y1,q1,k1,t1⟩:=htoks.out 1 _ rfl;obtain⟨y2,q2,k2,t2⟩:=htoks.out 2 _ rfl;have hw:wordF x=false:=hitok;have h0:Hid (isF C [99,101,108,108] ⟨o,0,0,0,0⟩=true):=zi (by rw[is_at rfl q0,k0,t0];rfl);have n1:Hid (namedF C ⟨o+1,0,0,0,0⟩=true):=zi (by rw[named_at rfl q1,k1,t1];simp[hw]);have m1:Hid (nameF C ⟨o+1,0,0,0,0⟩=(x,⟨o+2,0,0,0,0⟩)):=zi (by rw[name_at n1.out q1,t1];rfl);have s2:Hid (wantF C [59] ⟨o+2,0,0,0,0⟩=⟨o+3,0,0,0,0⟩):=zi (by rw[want_at (by rw[is_at rfl q2,k2,t2];rfl)];rfl);clear q0 k0 t0 q1 k1 t1 q2 k2 t2 hw;go_wp2_with fail;refine(take_yes hV.out.mv [99,101,108,108] h0.out rfl).mono ?_;rintro e w4 ⟨rfl,m4,-⟩;have V4:=zi (hV.out.call m4);clear m4 hV;go_wp2_with fail;refine(named_from V4.out.mv n1.out).mono ?_;rintro e w5 ⟨rfl,m5,-⟩;have V5:=V4.out.call m5;obtain⟨f0,f1,f2,f3⟩:=V5.facts;have V5:=zi V5;clear m5 V4;go_wp2_with fail;refine(name_from V5.out.mv m1.out).mono ?_;rintro e w6 ⟨rfl,m6,-,-⟩;have V6:=V5.out.call m6;clear f0 f1 f2 f3;obtain⟨f0,f1,f2,f3⟩:=V6.facts
   have hbn:=below_new w6 (.cells #[.string (strV x)] 9);have V6b:=zi (V6.up hbn);have hrw:=zi (rowS_fresh1 w6 9 [.string (strV x)]);have hB6:=zi V6b.out.szB;have hone:Hid (∀u∈([.string (strV x)]:List Value),u.oneCell'=true):=zi (by intro u hu;simp at hu;subst hu;rfl);clear m6 V5 V6 hbn;go_upto_region 15 with
    (at_builtin
     go_loud (refine wpList_append_rowS rfl (.tmp 70) (.tmp 72) 35 rfl B 9 iS _ 1 16 rfl hiS hzS0 hzS1 hzS2 rfl (by omega) (.slice A1 cs.length c1) cs.length (cs.map encStr) rfl V6b.out.own1 (some ⟨w6.heap.size,0,none⟩) 1 1 [.string (strV x)] rfl rfl hrw.out hone.out (by unfold maxLen;omega) (by omega) hB6.out ?_)
     go_loud (
      intro v7 w7 ho7 hg7 _;clear f0 f1 f2 f3;obtain⟨f0,f1,f2,f3⟩:=V6b.out.box V6b.out.tight.1 hg7;obtain⟨Ax,cx,rfl,-,-⟩:=own_rowS4' ho7;have V8:=zi (V6b.out.cell' (x:=x) ho7 hg7)
      clear ho7 hg7))
   obtain⟨w8,hw8⟩:∃y,y=w7.setCell ⟨gf,0,none⟩ (.slice Ax (cs.length+1) cx):=⟨_,rfl⟩;rw[←hw8]at V8;clear f0 f1 f2 f3;rw[←hw8];clear hw8 V6b hrw hB6 hone;go_wp2_with fail;refine(want_from V8.out.mv [59] s2.out).mono ?_;rintro e w9 ⟨rfl,m9,-⟩;have V9:=zi (V8.out.call m9);have hl9:Hid (left2 Z w9=2*(5000-(o+3))+1):=zi (by rw[V9.out.mv.left2];rfl)
   have hfin:Hid (∃(j:Nat) (A1 A2:Option Addr) (c1 c2:Nat),j≤N∧Hid (VG C Z gf B ⟨gOff (items.take j),0,0,0,0⟩ A1 A2 c1 c2 (gCells (items.take j)) (gArrs (items.take j)) w3 w9)):=zi (by
    refine⟨j+1,Ax,A2,cx,c2,hlt,zi ?_⟩;rw[htk.out,gOff_snoc]
    have e1:gCells (P++ [GIt.cell x])=cs++ [x]:=by rw[hcs.out];simp[gCells,GIt.cells]
    have e2:gArrs (P++ [GIt.cell x])=na:=by rw[hna.out];simp[gArrs,GIt.arrs]
    rw[e1,e2,←ho.out]
    exact V9.out)
   have hless:Hid (2*(5000-(o+3))+1<2*(5000-o)+1):=zi (by omega);clear V8 m9 V9;go_wp2_with fail;exact⟨hfin.out,by rw[hl9.out,hl0.out];exact hless.out⟩
  |arr x d=>
   obtain⟨y0,q0,k0,t0⟩:=htoks.out 0 _ rfl;obtain⟨y1,q1,k1,t1⟩:=htoks.out 1 _ rfl;obtain⟨y2,q2,k2,t2⟩:=htoks.out 2 _ rfl;obtain⟨y3,q3,k3,t3⟩:=htoks.out 3 _ rfl;obtain⟨y4,q4,k4,t4⟩:=htoks.out 4 _ rfl;obtain⟨y5,q5,k5,t5⟩:=htoks.out 5 _ rfl;obtain⟨hw,hv0,hv1⟩:=hitok;have h0:Hid (isF C [99,101,108,108] ⟨o,0,0,0,0⟩=false):=zi (by rw[is_at rfl q0,k0,t0];rfl);have s0:Hid (wantF C [97,114,114,97,121] ⟨o,0,0,0,0⟩=⟨o+1,0,0,0,0⟩):=zi (by rw[want_at (by rw[is_at rfl q0,k0,t0];rfl)];rfl);have n1:Hid (namedF C ⟨o+1,0,0,0,0⟩=true):=zi (by rw[named_at rfl q1,k1,t1];simp[hw]);have m1:Hid (nameF C ⟨o+1,0,0,0,0⟩=(x,⟨o+2,0,0,0,0⟩)):=zi (by rw[name_at n1.out q1,t1];rfl);have s2:Hid (wantF C [91] ⟨o+2,0,0,0,0⟩=⟨o+3,0,0,0,0⟩):=zi (by rw[want_at (by rw[is_at rfl q2,k2,t2];rfl)];rfl);have s4:Hid (wantF C [93] ⟨o+4,0,0,0,0⟩=⟨o+5,0,0,0,0⟩):=zi (by rw[want_at (by rw[is_at rfl q4,k4,t4];rfl)];rfl)
   have s5:Hid (wantF C [59] ⟨o+5,0,0,0,0⟩=⟨o+6,0,0,0,0⟩):=zi (by rw[want_at (by rw[is_at rfl q5,k5,t5];rfl)];rfl);have ho3:o+3<C.tk.length:=(List.getElem?_eq_some_iff.1 q3).1;obtain⟨p,hp⟩:∃y,y=o+3:=⟨_,rfl⟩;rw[←hp]at q3 s2 ho3;rw[show o+4=p+1 by omega,show o+5=p+2 by omega]at s4;rw[show o+5=p+2 by omega,show o+6=p+3 by omega]at s5;have hq3:Hid (C.tk[p]? =some y3):=zi q3;replace hp:=zi hp;clear q0 k0 t0 q1 k1 t1 q2 k2 t2 hw q3 q4 k4 t4 q5 k5 t5;go_wp2_with fail;refine(take_no hV.out.mv [99,101,108,108] h0.out).mono ?_;rintro e w4 ⟨rfl,m4,-⟩;have V4:=zi (hV.out.call m4);clear m4 hV;go_wp2_with fail;refine(want_from V4.out.mv [97,114,114,97,121] s0.out).mono ?_;rintro e w4b ⟨rfl,m4,-⟩;have V4b:=zi (V4.out.call m4);clear m4 V4;go_wp2_with fail;refine(named_from V4b.out.mv n1.out).mono ?_;rintro e w5 ⟨rfl,m5,-⟩;have V5:=V4b.out.call m5;obtain⟨f0,f1,f2,f3⟩:=V5.facts;have V5:=zi V5;clear m5 V4b;go_wp2_with fail;refine(name_from V5.out.mv m1.out).mono ?_;rintro e w6 ⟨rfl,m6,-,-⟩;have V6:=zi (V5.out.call m6);clear f0 f1 f2 f3 m6 V5;go_wp2_with fail
   refine(want_from V6.out.mv [91] s2.out).mono ?_;rintro e w7 ⟨rfl,m7,-⟩;have V7:=V6.out.call m7;clear m7 V6;obtain⟨b,off,hA,-,-,-,-⟩:=V7.at_.tok ho3;obtain⟨a0,e0,e1,e2,e3,e4,e5,e6,efz⟩:=V7.mv.facts;obtain⟨g0,g1,g2⟩:=V7.mv.tok hq3.out hA;rw[k3]at g0;rw[t3]at g1;have V7:=zi V7
   have hi2:decide (p<C.tk.length)=true:=by simpa using ho3
   go_wp2_with fail;go_quiet (fail);have V8:=V7.out.up (below_drewN (Below.refl w7.heap.size w7) nq);obtain⟨w8,hw8⟩:∃y,y=w7.drewN nq:=⟨_,rfl⟩;rw[←hw8]at V8⊢;clear hw8 V7 a0 e0 e1 e2 e3 e4 e5 e6 efz g0 g1 g2 hi2;obtain⟨a0,e0,e1,e2,e3,e4,e5,e6,efz⟩:=V8.mv.facts;obtain⟨g0,g1,g2⟩:=V8.mv.tok hq3.out hA;rw[t3]at g1;have V8:=zi V8
   have hdl:(strV d).size≤4096:=by have:=(V8.out.at_.fit.txt y3 (List.mem_of_getElem? hq3.out)).1;rw[t3]at this;rw[strV_size];exact this
   have hnum:=number_any w8.drew (strV d) hdl;go_upto_region 19 with(fail)
   go_still_tail 11,(by kernel_rfl)
   change wpList _ _ _ _ _ w8.drew;have V9:=V8.out.up (Below.refl _ w8).drew;obtain⟨w9,hw9⟩:∃x,x=w8.drew:=⟨_,rfl⟩;rw[←hw9]at V9 hnum⊢;have V9:=zi V9;clear hw9 a0 e0 e1 e2 e3 e4 e5 e6 efz g0 g1 g2 V8;go_wp2_with fail;refine hnum.mono ?_;clear hnum;rintro e w10 ⟨rfl,rfl⟩;obtain⟨v,hv⟩:∃y,y=numF (strV d).data.toList 0:=⟨_,rfl⟩;rw[←hv]
   have hvd:v=numF d 0:=by rw[hv];simp[strV]
   have hv2:¬v>1048576:=by omega
   have hv2':¬1048576<v:=by omega
   have hv3:(v==0)=false:=by simp;omega
   clear hv hvd;go_upto_region 24 with(fail);obtain⟨a0,e0,e1,e2,e3,e4,e5,e6,efz⟩:=V9.out.mv.facts;have Va:=V9.out.next ho3;have hw1:=i64_next (i:=p) (by omega);obtain⟨wa,hwa⟩:∃y,y=w10.setCell ⟨Z.g,1,none⟩ (.int .i64 ((p:Int)+1)):=⟨_,rfl⟩;rw[←hwa]at Va;obtain⟨f0,f1,f2,f3⟩:=V9.out.facts
   have hne:gf≠Z.g:=by have:=V9.out.lt;omega
   clear hv3 hv2 hv2' f2;go_upto_region 26 with(fail);rw[←hwa];clear hwa a0 e0 e1 e2 e3 e4 e5 e6 efz V9 hw1 f0 f1 f3;obtain⟨f0,f1,f2,f3⟩:=Va.facts;obtain⟨xs,ho2⟩:=Va.own2;have hbn:=below_new wa (.cells #[.string (strV x),.int .i64 v] 126);have Vb:=zi (Va.up hbn);have ho2:=zi (own_below ho2 hbn);have hrw:=zi (rowS_fresh1 wa 126 [.string (strV x),.int .i64 v]);have hBa:=zi Vb.out.szB;have hone:Hid (∀u∈([.string (strV x),.int .i64 v]:List Value),u.oneCell'=true):=zi (by intro u hu;simp at hu;rcases hu with rfl|rfl<;>rfl);clear Va hbn;go_upto_region 27 with
    (at_builtin
     go_loud (refine wpList_append_rowS rfl (.tmp 140) (.tmp 144) 46 rfl B 126 iA _ 2 24 rfl hiA hzA0 hzA1 hzA2 rfl (by omega) (.slice A2 na c2) na xs rfl ho2.out (some ⟨wa.heap.size,0,none⟩) 1 1 [.string (strV x),.int .i64 v] rfl rfl hrw.out hone.out (by unfold maxLen;omega) (by omega) hBa.out ?_)
     go_loud (
      intro vc wc hoc hgc _;clear f0 f1 f2 f3;obtain⟨f0,f1,f2,f3⟩:=Vb.out.box Vb.out.tight.2 hgc;obtain⟨Ax,cx,rfl,-,-⟩:=own_rowS4' hoc;have Vc:=zi (Vb.out.arr hoc hgc)
      clear hoc hgc))
   obtain⟨wd,hwd⟩:∃y,y=wc.setCell ⟨gf,1,none⟩ (.slice Ax (na+1) cx):=⟨_,rfl⟩;rw[←hwd]at Vc;rw[←hwd];clear f0 f1 f2 f3 hwd Vb hrw hBa hone ho2;go_wp2_with fail;refine(want_from Vc.out.mv [93] s4.out).mono ?_;rintro e we ⟨rfl,me,-⟩;have Ve:=zi (Vc.out.call me);clear Vc me;go_wp2_with fail;refine(want_from Ve.out.mv [59] s5.out).mono ?_;rintro e w9 ⟨rfl,m9,-⟩;have V9:=zi (Ve.out.call m9);have hl9:Hid (left2 Z w9=2*(5000-(p+3))+1):=zi (by rw[V9.out.mv.left2];rfl)
   have hfin:Hid (∃(j:Nat) (A1 A2:Option Addr) (c1 c2:Nat),j≤N∧Hid (VG C Z gf B ⟨gOff (items.take j),0,0,0,0⟩ A1 A2 c1 c2 (gCells (items.take j)) (gArrs (items.take j)) w3 w9)):=zi (by
    refine⟨j+1,A1,Ax,c1,cx,hlt,zi ?_⟩;rw[htk.out,gOff_snoc]
    have e1:gCells (P++ [GIt.arr x d])=cs:=by rw[hcs.out];simp[gCells,GIt.cells]
    have e2:gArrs (P++ [GIt.arr x d])=na+1:=by rw[hna.out];simp[gArrs,GIt.arrs]
    have e3:gOff P+(GIt.arr x d).toks.length=p+3:=by rw[←ho.out,hp.out];rfl
    rw[e1,e2,e3]
    exact V9.out)
   have hless:Hid (2*(5000-(p+3))+1<2*(5000-o)+1):=zi (by have:=hp.out;omega);clear Ve m9 V9;go_wp2_with fail;exact⟨hfin.out,by rw[hl9.out,hl0.out];exact hless.out⟩
 ·have hjN:j=N:=by omega
  have hti:Hid (items.take j=items):=zi (by rw[hjN,hN.out,List.take_length]);have V:=hV.out;rw[hti.out,←hoff.out]at V;obtain⟨a0,e0,e1,e2,e3,e4,e5,e6,efz⟩:=V.mv.facts;obtain⟨b1,b2,b3,b4,b5,b6,b7⟩:=V.at_.bounds;obtain⟨cs,hcs⟩:∃y,y=gCells items:=⟨_,rfl⟩;obtain⟨na,hna⟩:∃y,y=gArrs items:=⟨_,rfl⟩;rw[←hcs,←hna]at V;replace hcs:=zi hcs;replace hna:=zi hna;obtain⟨f0,f1,f2,f3⟩:=V.facts;have hHg:=zi (V.wr.holds hHr3.out (by have h1:=hrz.out;have h2:=V.lt;simp;omega));have V:=zi V;clear hV hlt hjN;go_wp2_with fail;go_quiet (fail);have V2:=V.out.up (below_drewN (Below.refl wl.heap.size wl) nq);have hHg2:=hHg.out.below (below_drewN (Below.refl wl.heap.size wl) nq) hHg.out.lt;obtain⟨w2,hw2⟩:∃y,y=wl.drewN nq:=⟨_,rfl⟩;rw[←hw2]at V2 hHg2⊢;clear hw2 V hHg a0 e0 e1 e2 e3 e4 e5 e6 efz f0 f1 f2 f3;obtain⟨a0,e0,e1,e2,e3,e4,e5,e6,efz⟩:=V2.mv.facts;obtain⟨f0,f1,f2,f3⟩:=V2.facts;have r0:=(fact_of hHg2 0 rfl).2;have r1:=(fact_of hHg2 1 rfl).2;have r2:=hHg2.lt;have r3:=hHg2.frozen 0;have r4:=hHg2.frozen 1;have hst:=writes_two w2 gr (.slice A1 cs.length c1) (.slice A2 na c2)
  have hfin:Hid (GlPost (gCells items) w (.returned (.tuple #[.agg #[.slice A1 cs.length c1,.slice A2 na c2],.int .i64 0,.int .i64 0])) ((w2.setCell ⟨gr,0,none⟩ (.slice A1 cs.length c1)).setCell ⟨gr,1,none⟩ (.slice A2 na c2))):=zi (by
   rw[←hcs.out];obtain⟨h1,h2,h3,h4⟩:=hrz.out;have ho1:=own_kept V2.own1 hst (fun j hj=>by simp at hj;have:=V2.lt;have:=V2.low;omega);obtain⟨Ar,cr,er,hro,hcr⟩:=own_rowA ho1;injection er with er1 _ er3;subst er1 er3;refine⟨A1,c1,A2,na,c2,rfl,hro,hcr,?_⟩;have hb:=V2.wr;refine(hB3.out.trans (hb.below hB3.out.size fun k hk=> ?_)).trans (hst.below (Nat.le_trans hB3.out.size hb.size) fun k hk=>by simp at hk;omega);have:=V2.lt;simp at hk
   omega)
  have hh3:=zi (holds_two hHg2 (.slice A1 cs.length c1) (.slice A2 na c2));clear V2 hHg2 hst;go_wp2_with fail;exact ret_cell3 rfl rfl rfl hh3.out Tryz.underlying48 Tryz.sGl hfin.out
theorem helpPts_any (w:World) (z:Bool) (A1 A2:Option Addr) (n c1 c2:Nat) (l:List S) (hn:n=l.length) (hm:n≤100000) (h1:Row w w.heap.size A1 (l.map encStr)) (h2:Row w w.heap.size A2 (l.map encStr)):
  Calls Tryz.prog 66 #[.agg #[.bool z,.slice A1 n c1],.agg #[.bool z,.slice A2 n c2]] w fun e w'=>e= .returned (.bool true)∧Below w.heap.size w w':=by
 have K:=(((Kp.start (Below.refl w.heap.size w)).addR h2).addR h1).new 130 #[.bool z,.slice A1 n c1]|>.new 130 #[.bool z,.slice A2 n c2]
 rw[show(w.alloc (.cells #[.bool z,.slice A1 n c1] 130)).heap.size=w.heap.size+1 by simp]at K;have hn':=zi hn;clear h1 h2 hn;have x0:=(K.fact 0 0 rfl rfl).2;have x1:=(K.fact 0 1 rfl rfl).2;have y0:=(K.fact 1 0 rfl rfl).2;have y1:=(K.fact 1 1 rfl rfl).2;have K:=zi K;go_enter Tryz.func66,Tryz.ntmps66;go_wp2_with fail;refine(strs_any _ A1 A2 n n c1 c2 l l hn'.out.symm hn'.out.symm hm hm (K.out.row 0 _ _ rfl) (K.out.row 1 _ _ rfl)).mono ?_;rintro e w2 ⟨he,hb2⟩
 have hd:decide (l=l)=true:=by simp
 rw[hd]at he;subst he;have hb:=zi (K.out.up hb2).bel;clear hd hb2 K x0 x1 y0 y1;go_wp2_with fail;go_ret;exact⟨rfl,hb.out⟩
theorem PtrsIn.at_ {w:World}:∀{l:List PRw} {m:List (ByteArray×Pz)},PtrsIn w l m→∀{k:Nat} (h:k<l.length) (h':k<m.length),PtrR w l[k] m[k]
 |_::_,_::_,h,0,_,_=>h.1
 |_::_,_::_,h,k+1,hk,hk'=>PtrsIn.at_ h.2 (k:=k) (by simpa using hk) (by simpa using hk')
theorem helpMem_any (w:World) (qi:List NRw) (lp1 lp2:List PRw) (qp:List (ByteArray×Pz)) (A1 A2 B1 B2:Option Addr) (c1 c2 k1 k2:Nat) (h1:RowS w Evr A1 (qi.flatMap encN)) (h2:RowS w Evr A2 (lp1.flatMap encP)) (h3:RowS w Evr B1 (qi.flatMap encN)) (h4:RowS w Evr B2 (lp2.flatMap encP))
  (hp1:PtrsIn w lp1 qp) (hp2:PtrsIn w lp2 qp) (hn:qi.length≤1000) (hm:qp.length≤1000) (hc:∀q∈qp,q.2.cells.length≤1000):
  Calls Tryz.prog 24 #[memV A1 qi.length c1 A2 lp1.length c2,memV B1 qi.length k1 B2 lp2.length k2] w fun e w'=>e= .returned (.bool true)∧Below w.heap.size w w':=by
 obtain⟨n,hnq⟩:∃y,y=qi.length:=⟨_,rfl⟩;obtain⟨m,hmq⟩:∃y,y=qp.length:=⟨_,rfl⟩;rw[hp1.len,hp2.len,←hnq,←hmq];rw[←hnq]at hn;rw[←hmq]at hm;obtain⟨wa,hwa⟩:∃y,y=w.alloc (.cells #[.bool true,.slice A1 n c1,.slice A2 m c2] 56):=⟨_,rfl⟩;obtain⟨wb,hwb⟩:∃y,y=wa.alloc (.cells #[.bool true,.slice B1 n k1,.slice B2 m k2] 56):=⟨_,rfl⟩
 have ka:Below w.heap.size w wa:=by rw[hwa];exact below_new _ _
 have kb:Below wa.heap.size wa wb:=by rw[hwb];exact below_new _ _
 obtain⟨ga,hga⟩:∃y,y=w.heap.size:=⟨_,rfl⟩;obtain⟨gb,hgb⟩:∃y,y=wa.heap.size:=⟨_,rfl⟩
 have hHa:Holds wb ga 56 #[.bool true,.slice A1 n c1,.slice A2 m c2]:=by have h:=Holds.new w 56 #[.bool true,.slice A1 n c1,.slice A2 m c2];rw[←hwa,←hga]at h;exact h.below kb h.lt
 have hHb:Holds wb gb 56 #[.bool true,.slice B1 n k1,.slice B2 m k2]:=by rw[hwb,hgb];exact Holds.new _ _ _
 have hs:gb=ga+1:=by rw[hgb,hga,hwa];simp
 have kab:=ka.trans (kb.mono ka.size)
 have hR:Hid (∀w',Below wb.heap.size wb w'→RowS w' Evr A1 (qi.flatMap encN)∧RowS w' Evr A2 (lp1.flatMap encP)∧RowS w' Evr B1 (qi.flatMap encN)∧RowS w' Evr B2 (lp2.flatMap encP)∧PtrsIn w' lp1 qp∧PtrsIn w' lp2 qp∧Holds w' ga 56 #[.bool true,.slice A1 n c1,.slice A2 m c2]∧Holds w' gb 56 #[.bool true,.slice B1 n k1,.slice B2 m k2]):=zi fun w' hb=>by have hb0:=kab.trans (hb.mono kab.size);exact⟨h1.up hb0,h2.up hb0,h3.up hb0,h4.up hb0,hp1.all fun _ _ h=>h.up hb0,hp2.all fun _ _ h=>h.up hb0,hHa.below hb hHa.lt,hHb.below hb hHb.lt⟩
 have hfo:Hid ((w.alloc (.cells #[.bool true,.slice A1 n c1,.slice A2 m c2] 56)).alloc (.cells #[.bool true,.slice B1 n k1,.slice B2 m k2] 56)=wb):=zi (by rw[hwb,hwa]);have hga':=zi hga.symm;have hgb':Hid (ga+1=gb):=zi hs.symm;have hl1:=zi hp1.len;have hl2:=zi hp2.len;replace hnq:=zi hnq;replace hmq:=zi hmq;replace hc:=zi hc;replace kab:=zi kab;clear h1 h2 h3 h4 hp1 hp2 hwa hwb hga hgb hHa hHb hs ka kb;unfold memV;go_enter Tryz.func24,Tryz.ntmps24;go_upto_region 1 with(fail);rw[hfo.out,hga'.out,hgb'.out];clear hfo hga' hgb';obtain⟨-,-,-,-,-,-,Ha,Hb⟩:=hR.out wb (Below.refl _ _);have a0:=(fact_of Ha 0 rfl).2;have a1:=(fact_of Ha 1 rfl).2;have a2:=(fact_of Ha 2 rfl).2;have b0:=(fact_of Hb 0 rfl).2;have b1:=(fact_of Hb 1 rfl).2;have b2:=(fact_of Hb 2 rfl).2;have al:=Ha.lt;have bl:=Hb.lt;clear Ha Hb;go_upto_region 4 with(fail);go_loopw [5] (fun i wr=>∃k:Nat,k≤n∧i= .int .i64 k∧Hid (Below wb.heap.size wb wr)) (fun i _=>n-(intOf i).toNat)
 case atStart=>exact⟨0,Nat.zero_le _,rfl,zi (Below.refl _ _)⟩
 clear a0 a1 a2 b0 b1 b2 al bl;obtain⟨k,hk,rfl,hbl⟩:=hrel;rename World=>wr;obtain⟨r1,-,r3,-,-,-,Ha,Hb⟩:=hR.out wr hbl.out;have a0:=(fact_of Ha 1 rfl).2;have b0:=(fact_of Hb 1 rfl).2;have al:=Ha.lt;have bl:=Hb.lt;clear Ha Hb;by_cases hlt:k<n
 ·have hkl:k<qi.length:=by rw[←hnq.out];exact hlt
  obtain⟨ba,oa,rfl,qa,hqa⟩:=grow_at (enc:=encN) (kk:=4) (fun _=>rfl) (by decide) r1 hkl;obtain⟨bb,ob,rfl,qb,hqb⟩:=grow_at (enc:=encN) (kk:=4) (fun _=>rfl) (by decide) r3 hkl;have s0:wr.cell? ⟨ba,oa+k*4,none⟩=some (.string qi[k].nm):=hqa 0 _ rfl;have s1:wr.cell? ⟨ba,oa+k*4+1,none⟩=some (.bool qi[k].so):=hqa 1 _ rfl;have s2:wr.cell? ⟨ba,oa+k*4+2,none⟩=some (.int .i64 qi[k].lo):=hqa 2 _ rfl;have s3:wr.cell? ⟨ba,oa+k*4+3,none⟩=some (.int .i64 qi[k].hi):=hqa 3 _ rfl;have u0:wr.cell? ⟨bb,ob+k*4,none⟩=some (.string qi[k].nm):=hqb 0 _ rfl;have u1:wr.cell? ⟨bb,ob+k*4+1,none⟩=some (.bool qi[k].so):=hqb 1 _ rfl;have u2:wr.cell? ⟨bb,ob+k*4+2,none⟩=some (.int .i64 qi[k].lo):=hqb 2 _ rfl;have u3:wr.cell? ⟨bb,ob+k*4+3,none⟩=some (.int .i64 qi[k].hi):=hqb 3 _ rfl;clear hqa hqb;generalize qi[k].nm=e0 at s0 u0;generalize qi[k].so=e1 at s1 u1;generalize qi[k].lo=e2 at s2 u2;generalize qi[k].hi=e3 at s3 u3;go_wp2_with fail;go_quiet (fail);have hb2:=zi (hbl.out.trans ((below_drewN (Below.refl wr.heap.size wr) nq).mono hbl.out.size))
  clear s0 s1 s2 s3 u0 u1 u2 u3 a0 b0 al bl r1 r3;go_wp2_with fail;refine⟨⟨k+1,hlt,by go_num,hb2⟩,?_⟩;simp[intOf];omega
 have hltz:¬(k:Int)<(n:Int):=by omega
 clear r1 r3 hlt;go_upto_region 8 with(fail);clear a0 b0 al bl hltz hk;rename World=>wp;have hbl':=zi hbl.out;obtain⟨-,-,-,-,-,-,Ha,Hb⟩:=hR.out wp hbl.out;have a0:=(fact_of Ha 2 rfl).2;have b0:=(fact_of Hb 2 rfl).2;have al:=Ha.lt;have bl:=Hb.lt;clear Ha Hb hbl;go_upto_region 9 with(fail);go_loopw [6] (fun i wr=>∃k:Nat,k≤m∧i= .int .i64 k∧Hid (Below wb.heap.size wb wr)) (fun i _=>m-(intOf i).toNat)
 case atStart=>exact⟨0,Nat.zero_le _,rfl,hbl'⟩
 clear a0 b0 al bl hbl';rename_i k0 _;obtain⟨k,hk,rfl,hbl⟩:=hrel;rename World=>wr;obtain⟨-,r2,-,r4,p1,p2,Ha,Hb⟩:=hR.out wr hbl.out;have a0:=(fact_of Ha 2 rfl).2;have b0:=(fact_of Hb 2 rfl).2;have al:=Ha.lt;have bl:=Hb.lt;clear Ha Hb;by_cases hlt:k<m
 ·have hkq:k<qp.length:=by rw[←hmq.out];exact hlt
  have hk1:k<lp1.length:=by rw[hl1.out];exact hkq
  have hk2:k<lp2.length:=by rw[hl2.out];exact hkq
  obtain⟨ba,oa,rfl,qa,hqa⟩:=grow_at (enc:=encP) (kk:=3) (fun _=>rfl) (by decide) r2 hk1;obtain⟨bb,ob,rfl,qb,hqb⟩:=grow_at (enc:=encP) (kk:=3) (fun _=>rfl) (by decide) r4 hk2;have s0:wr.cell? ⟨ba,oa+k*3,none⟩=some (.string lp1[k].nm):=hqa 0 _ rfl;have s1:wr.cell? ⟨ba,oa+k*3+1,none⟩=some (.bool lp1[k].nul):=hqa 1 _ rfl;have s2:wr.cell? ⟨ba,oa+k*3+2,none⟩=some (.slice lp1[k].A lp1[k].n lp1[k].c):=hqa 2 _ rfl;have u0:wr.cell? ⟨bb,ob+k*3,none⟩=some (.string lp2[k].nm):=hqb 0 _ rfl;have u1:wr.cell? ⟨bb,ob+k*3+1,none⟩=some (.bool lp2[k].nul):=hqb 1 _ rfl;have u2:wr.cell? ⟨bb,ob+k*3+2,none⟩=some (.slice lp2[k].A lp2[k].n lp2[k].c):=hqb 2 _ rfl;obtain⟨e1,e2,e3,f1⟩:=p1.at_ hk1 hkq;obtain⟨e1',e2',e3',f2⟩:=p2.at_ hk2 hkq;have hcq:=hc.out qp[k] (List.getElem_mem hkq);clear hqa hqb p1 p2 r2 r4;generalize lp1[k]=x1 at s0 s1 s2 e1 e2 e3 f1;generalize lp2[k]=x2 at u0 u1 u2 e1' e2' e3' f2;generalize qp[k]=q at e1 e2 e3 f1 e1' e2' e3' f2 hcq;obtain⟨n1,z1,A1',m1,c1'⟩:=x1;obtain⟨n2,z2,A2',m2,c2'⟩:=x2;obtain⟨nq,zq,lq⟩:=q
  simp only at s0 s1 s2 u0 u1 u2 e1 e2 e3 f1 e1' e2' e3' f2 hcq;subst e1 e2 e1' e2';rw[e3]at s2;rw[e3']at u2;obtain⟨M,hM⟩:∃y,y=lq.length:=⟨_,rfl⟩;rw[←hM]at s2 u2 hcq;have cP:=zi (helpPts_any wr.drew z2 A1' A2' M c1' c2' lq hM (by omega) (f1.below (Below.refl _ wr).drew) (f2.below (Below.refl _ wr).drew));replace hM:=zi hM;clear e3 e3' f1 f2;go_upto_region 11 with(fail)
  go_still_tail 26,(by kernel_rfl)
  change wpList _ _ _ _ _ wr.drew;have hb1:=zi (hbl.out.trans ((Below.refl _ wr).drew.mono hbl.out.size));obtain⟨wd,hwd⟩:∃y,y=wr.drew:=⟨_,rfl⟩;rw[←hwd]at hb1 cP⊢;clear hwd s0 s1 s2 u0 u1 u2 a0 b0 al bl;go_wp2_with fail;refine cP.out.mono ?_;rintro e w2 ⟨rfl,hb2⟩;have hb3:=zi (hb1.out.trans (hb2.mono hb1.out.size));clear hb2 cP;go_wp2_with fail;refine⟨⟨k+1,hlt,by go_num,hb3⟩,?_⟩;simp[intOf];omega
 have hltz:¬(k:Int)<(m:Int):=by omega
 have hfin:=zi (kab.out.trans (hbl.out.mono kab.out.size));clear r2 r4 p1 p2 hlt hk;go_wp2_with fail;go_ret;exact⟨rfl,hfin.out⟩
end Go.Proofs.YtpndglghpojjkaaGreat
