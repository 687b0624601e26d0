/-
  The seat's maker: a statement, a block.
-/
import Derived.Test.YtpndglghpojjkaaGreatVNuE
set_option maxRecDepth 1000000
set_option maxHeartbeats 8000000

namespace Go.Proofs.YtpndglghpojjkaaGreat
open Go.RowKit Go.Deep

def SC:Nat→Nat|0=>60|d+1=>6*SC d+80
def SM:Nat→Nat|0=>250|d+1=>6*SM d+300
theorem SC_le:∀d,60≤SC d|0=>Nat.le_refl _|d+1=>by have:=SC_le d;simp only[SC];omega
theorem SM_le:∀d,250≤SM d|0=>Nat.le_refl _|d+1=>by have:=SM_le d;simp only[SM];omega
def StOk (d:Nat):Prop:=∀(b:List UInt8) (B g k:Nat) (w0:World),Mk b B g k w0→b.length≤100000→k≤700000+10000*(2-d)→∀kk:Nat,kk<4→
 Calls Tryz.prog 98 #[.pointer (some ⟨g,0,none⟩),.int .i64 kk,.int .i64 d] w0 (MkOut b B g (k+SC d) (SM d) w0)
def BkOk (d:Nat):Prop:=∀(b:List UInt8) (B g k:Nat) (w0:World),Mk b B g k w0→b.length≤100000→k≤702000+10000*(1-d)→∀kk:Nat,kk<4→
 Calls Tryz.prog 153 #[.pointer (some ⟨g,0,none⟩),.int .i64 kk,.int .i64 (d+1:Nat)] w0 (MkOut b B g (k+(3*SC d+1)) (3*SM d+4) w0)
theorem Mk.step {b:List UInt8} {B g k:Nat} {w:World} {A:Option Addr} {c i:Nat} {m:Int} (h:MkS b B g A c i m w) (hi:i≤k) (h1: -(k:Int)≤m) (h2:m≤25):Mk b B g (k+1) (w.setCell ⟨g,2,none⟩ (.int .i64 (m-1)))∧Writes [some g] w (w.setCell ⟨g,2,none⟩ (.int .i64 (m-1))):=
 ⟨⟨A,c,i,m-1,h.putM (m-1),by omega,by omega,by omega⟩,Writes.store w (by simp) _⟩
set_option maxHeartbeats 4000000 in
theorem mstmt_step (d:Nat) (hd:d≤2) (hb:∀p,d=p+1→BkOk p):StOk d:=by
 intro b B g k w0 h hl hk kk hkk;obtain⟨A,c,i,m,hS,hi,hm1,hm2⟩:=h;have p2:w0.cell? ⟨g,2,none⟩=some (.int .i64 m):=hS.h.cell 2;have pl:=hS.h.lt;have pz:=hS.h.frozen 2;have hM1:=Mk.step hS hi hm1 hm2;obtain⟨w1,hw1⟩:∃z,z=w0.setCell ⟨g,2,none⟩ (.int .i64 (m-1)):=⟨_,rfl⟩
 have p2':(w0.setCell ⟨g,2,none⟩ (.int .i64 (m-1))).cell? ⟨g,2,none⟩=some (.int .i64 (m-1)):=(hS.putM (m-1)).h.cell 2;have hSC:=SC_le d;have hSM:=SM_le d;rw[←hw1]at hM1;have hW1:=Za hM1.2;replace hM1:=Za hM1.1;have hfo:=Za hw1.symm;have hm1':=Za hm1;have hb':=Za hb;clear hS hw1 hi hb;go_enter Tryz.func98,Tryz.ntmps98;by_cases hm0:m<1
 ·have hm3:m-1<0:=by omega
  go_wp2_with fail;rw[hfo.out];go_wp2_with fail;refine(mnum_any b B g _ w1 hM1.out hl (by omega)).mono ?_;rintro e w2 ⟨⟨s2,rfl,hs2⟩,hM2,hW2⟩;replace hW2:=Za (hW1.out.trans hW2);replace hM2:=Za hM2;go_wp2_with fail;go_ret
  exact⟨⟨_,rfl,by first|omega| (simp only[ByteArray.size_append,bs_lit,List.size_toArray,List.length_cons,List.length_nil];omega)⟩,hM2.out.more (by omega),hW2.out⟩
 have hm3:¬m-1<0:=by omega
 go_wp2_with fail;rw[hfo.out];clear p2 pl pz p2' hfo;refine(mnext_any b B g _ w1 hM1.out hl (by omega) 18 (by decide) (by decide)).mono ?_;rintro e w2 ⟨⟨r2,rfl,hr2⟩,hM2,hW2⟩;replace hW2:=Za (hW1.out.trans hW2);replace hM2:=Za hM2;by_cases q0:r2=0
 ·subst q0;go_wp2_with fail;refine(mivar_any b B g _ w2 hM2.out hl (by omega)).mono ?_;rintro e w3 ⟨⟨s3,rfl,hs3⟩,hM3,hW3⟩;replace hW3:=Za (hW2.out.trans hW3);replace hM3:=Za hM3;go_wp2_with fail;refine(msum_any 2 (by decide) b B g _ w3 hM3.out hl (by omega)).mono ?_;rintro e w4 ⟨⟨s4,rfl,hs4⟩,hM4,hW4⟩;replace hW4:=Za (hW3.out.trans hW4);replace hM4:=Za hM4;go_wp2_with fail
  go_ret;exact⟨⟨_,rfl,by first|omega| (simp only[ByteArray.size_append,bs_lit,List.size_toArray,List.length_cons,List.length_nil];omega)⟩,hM4.out.more (by omega),hW4.out⟩
 have c0:((r2:Int)==0)=false:=by simp;omega
 by_cases q1:r2=1
 ·subst q1;go_wp2_with fail;refine(mivar_any b B g _ w2 hM2.out hl (by omega)).mono ?_;rintro e w3 ⟨⟨s3,rfl,hs3⟩,hM3,hW3⟩;replace hW3:=Za (hW2.out.trans hW3);replace hM3:=Za hM3;go_wp2_with fail;refine(msum_any 2 (by decide) b B g _ w3 hM3.out hl (by omega)).mono ?_;rintro e w4 ⟨⟨s4,rfl,hs4⟩,hM4,hW4⟩;replace hW4:=Za (hW3.out.trans hW4);replace hM4:=Za hM4;go_wp2_with fail
  go_ret;exact⟨⟨_,rfl,by first|omega| (simp only[ByteArray.size_append,bs_lit,List.size_toArray,List.length_cons,List.length_nil];omega)⟩,hM4.out.more (by omega),hW4.out⟩
 have c1:((r2:Int)==1)=false:=by simp;omega
 by_cases q2:r2=2
 ·subst q2;go_wp2_with fail;refine(mivar_any b B g _ w2 hM2.out hl (by omega)).mono ?_;rintro e w3 ⟨⟨s3,rfl,hs3⟩,hM3,hW3⟩;replace hW3:=Za (hW2.out.trans hW3);replace hM3:=Za hM3;go_wp2_with fail;refine(msum_any 2 (by decide) b B g _ w3 hM3.out hl (by omega)).mono ?_;rintro e w4 ⟨⟨s4,rfl,hs4⟩,hM4,hW4⟩;replace hW4:=Za (hW3.out.trans hW4);replace hM4:=Za hM4;go_wp2_with fail
  go_ret;exact⟨⟨_,rfl,by first|omega| (simp only[ByteArray.size_append,bs_lit,List.size_toArray,List.length_cons,List.length_nil];omega)⟩,hM4.out.more (by omega),hW4.out⟩
 have c2:((r2:Int)==2)=false:=by simp;omega
 by_cases q3:r2=3
 ·subst q3;go_wp2_with fail;refine(mpvar_any b B g _ w2 hM2.out hl (by omega) kk hkk).mono ?_;rintro e w3 ⟨⟨s3,rfl,hs3⟩,hM3,hW3⟩;replace hW3:=Za (hW2.out.trans hW3);replace hM3:=Za hM3;have hbn:=aA w3 (.cells #[.string ⟨#[99]⟩,.string ⟨#[100]⟩] 9);have hH:=Holds.new w3 9 #[.string ⟨#[99]⟩,.string ⟨#[100]⟩]
  obtain⟨wa,hwa⟩:∃z,z=w3.alloc (.cells #[.string ⟨#[99]⟩,.string ⟨#[100]⟩] 9):=⟨_,rfl⟩;obtain⟨ga,hga⟩:∃z,z=w3.heap.size:=⟨_,rfl⟩;rw[←hwa]at hbn hH;rw[←hga]at hH
  have hne:ga≠g:=by have:=hM3.out.lt;omega
  have hMa:=Za (hM3.out.below hbn);have hWa:=Za (hW3.out.trans (Writes.of_below hbn _));have hfo:=Za hwa.symm;have hgo:=Za hga.symm;have hHa:=Za hH;clear hbn hH hwa hga;go_wp2_with fail;rw[hfo.out,hgo.out];clear hfo hgo;refine(mnext_any b B g _ wa hMa.out hl (by omega) 2 (by decide) (by decide)).mono ?_;rintro e wb ⟨⟨rb,rfl,hrb⟩,hMb,hWb⟩
  have hHb:=hWb.holds hHa.out (by simpa using hne);obtain⟨sb,hsb,hsM⟩:=pick_at (l:= [⟨#[99]⟩,⟨#[100]⟩]) (M:=1) hHb hrb (by decide);have ql:=hHb.lt;have hE:=Za (And.intro hMb (hWa.out.trans hWb));clear hHb hMb hWb hWa hHa;go_wp2_with fail;go_ret
  exact⟨⟨_,rfl,by simp only[ByteArray.size_append,bs_lit,List.size_toArray,List.length_cons,List.length_nil];omega⟩,hE.out.1.more (by omega),hE.out.2⟩
 have c3:((r2:Int)==3)=false:=by simp;omega
 by_cases q4:r2=4
 ·subst q4;go_wp2_with fail;refine(mpvar_any b B g _ w2 hM2.out hl (by omega) kk hkk).mono ?_;rintro e w3 ⟨⟨s3,rfl,hs3⟩,hM3,hW3⟩;replace hW3:=Za (hW2.out.trans hW3);replace hM3:=Za hM3;have hbn:=aA w3 (.cells #[.string ⟨#[110,117,108,108]⟩,.string ⟨#[113]⟩] 9);have hH:=Holds.new w3 9 #[.string ⟨#[110,117,108,108]⟩,.string ⟨#[113]⟩]
  obtain⟨wa,hwa⟩:∃z,z=w3.alloc (.cells #[.string ⟨#[110,117,108,108]⟩,.string ⟨#[113]⟩] 9):=⟨_,rfl⟩;obtain⟨ga,hga⟩:∃z,z=w3.heap.size:=⟨_,rfl⟩;rw[←hwa]at hbn hH;rw[←hga]at hH
  have hne:ga≠g:=by have:=hM3.out.lt;omega
  have hMa:=Za (hM3.out.below hbn);have hWa:=Za (hW3.out.trans (Writes.of_below hbn _));have hfo:=Za hwa.symm;have hgo:=Za hga.symm;have hHa:=Za hH;clear hbn hH hwa hga;go_wp2_with fail;rw[hfo.out,hgo.out];clear hfo hgo;refine(mnext_any b B g _ wa hMa.out hl (by omega) 2 (by decide) (by decide)).mono ?_;rintro e wb ⟨⟨rb,rfl,hrb⟩,hMb,hWb⟩
  have hHb:=hWb.holds hHa.out (by simpa using hne);obtain⟨sb,hsb,hsM⟩:=pick_at (l:= [⟨#[110,117,108,108]⟩,⟨#[113]⟩]) (M:=4) hHb hrb (by decide);have ql:=hHb.lt;have hE:=Za (And.intro hMb (hWa.out.trans hWb));clear hHb hMb hWb hWa hHa;go_wp2_with fail;go_ret
  exact⟨⟨_,rfl,by simp only[ByteArray.size_append,bs_lit,List.size_toArray,List.length_cons,List.length_nil];omega⟩,hE.out.1.more (by omega),hE.out.2⟩
 have c4:((r2:Int)==4)=false:=by simp;omega
 by_cases q5:r2=5
 ·subst q5;go_wp2_with fail;refine(mivar_any b B g _ w2 hM2.out hl (by omega)).mono ?_;rintro e w3 ⟨⟨s3,rfl,hs3⟩,hM3,hW3⟩;replace hW3:=Za (hW2.out.trans hW3);replace hM3:=Za hM3;go_wp2_with fail;refine(mpvar_any b B g _ w3 hM3.out hl (by omega) kk hkk).mono ?_;rintro e w4 ⟨⟨s4,rfl,hs4⟩,hM4,hW4⟩;replace hW4:=Za (hW3.out.trans hW4);replace hM4:=Za hM4;go_wp2_with fail;go_ret
  exact⟨⟨_,rfl,by first|omega| (simp only[ByteArray.size_append,bs_lit,List.size_toArray,List.length_cons,List.length_nil];omega)⟩,hM4.out.more (by omega),hW4.out⟩
 have c5:((r2:Int)==5)=false:=by simp;omega
 by_cases q6:r2=6
 ·subst q6;go_wp2_with fail;refine(mpvar_any b B g _ w2 hM2.out hl (by omega) kk hkk).mono ?_;rintro e w3 ⟨⟨s3,rfl,hs3⟩,hM3,hW3⟩;replace hW3:=Za (hW2.out.trans hW3);replace hM3:=Za hM3;go_wp2_with fail;refine(msum_any 1 (by decide) b B g _ w3 hM3.out hl (by omega)).mono ?_;rintro e w4 ⟨⟨s4,rfl,hs4⟩,hM4,hW4⟩;replace hW4:=Za (hW3.out.trans hW4);replace hM4:=Za hM4
  go_wp2_with fail;go_ret;exact⟨⟨_,rfl,by first|omega| (simp only[ByteArray.size_append,bs_lit,List.size_toArray,List.length_cons,List.length_nil];omega)⟩,hM4.out.more (by omega),hW4.out⟩
 have c6:((r2:Int)==6)=false:=by simp;omega
 by_cases q7:r2=7
 ·subst q7;have hk2:=Za (And.intro hSC hSM);clear hb';obtain⟨K,hK⟩:∃K,K=k+2:=⟨_,rfl⟩;have hMr:=Za (hM2.out.more (Nat.le_of_eq hK.symm));have hWr:=hW2;clear hM2 hW2;go_upto_region 19 with(fail)
  refine aC ((eqv (.pointer (some ⟨g,0,none⟩)))::(fun L w v=>∃s:ByteArray,v= .string s∧s.size≤1)::(fun L w v=>∃s:ByteArray,v= .string s∧s.size≤1+3)::(fun L w v=>∃q,v= .slice (some ⟨q,0,none⟩) 2 2∧Holds w q 9 #[.string ⟨#[116]⟩,.string ⟨#[117]⟩]∧q≠g)::(eqv (.pointer (some ⟨g,0,none⟩)))::(fun L w v=>∃r:Nat,v= .int .i64 r∧r<2)::(fun L w v=>∃q r,v= .pointer (some ⟨q,r,none⟩)∧Holds w q 9 #[.string ⟨#[116]⟩,.string ⟨#[117]⟩]∧r<2∧q≠g)::(fun L w v=>∃s:ByteArray,v= .string s∧s.size≤1)::(fun L w v=>∃s:ByteArray,v= .string s∧s.size≤1+3+1)::(fun L w v=>∃s:ByteArray,v= .string s∧s.size≤1+3+1+1)::(eqv (.pointer (some ⟨g,0,none⟩)))::(fun L w v=>∃s:ByteArray,v= .string s∧s.size≤25)::(fun L w v=>∃s:ByteArray,v= .string s∧s.size≤1+3+1+1+25)::(fun L w v=>∃s:ByteArray,v= .string s∧s.size≤1+3+1+1+25+3)::(fun L w v=>∃s:ByteArray,v= .string s∧s.size≤1+3+1+1+25+3)::[])
   ((rn1 0)::(rd1 90 0)::(rd1 91 1)::⟨[],0,[]⟩::(rn1 0)::(rd1 94 4)::⟨[(93,some 3),(95,some 5)],0,[]⟩::(rd1 96 6)::⟨[(92,some 2),(97,some 7)],0,[]⟩::(rd1 98 8)::(rn1 0)::(rd1 100 10)::⟨[(99,some 9),(101,some 11)],0,[]⟩::(rd1 102 12)::(rd1 103 13)::[])
   (no::no::no::no::no::no::so 14::no::no::no::no::no::no::no::no::no::no::no::no::no::no::no::no::no::no::no::no::no::no::no::no::no::no::no::no::no::no::no::no::no::no::no::no::no::no::no::no::no::no::no::no::no::no::no::no::no::no::no::no::no::no::no::no::no::no::no::no::no::no::no::no::no::no::no::no::no::no::no::no::no::no::no::no::no::no::no::no::no::no::no::so 0::so 1::so 2::so 3::so 4::so 5::so 6::so 7::so 8::so 9::so 10::so 11::so 12::so 13::[])
   (fun L w'=>MkU b B g K [(1,1),(5,1),(11,5)] w0 L w') (fun _ w w'=>Writes [some g] w w') ?mixK19st19 ?okK19st19 ?tabK19st19 ?frK19st19 ?inK19st19 ?keptK19st19 ?startK19st19 ?eachK19st19 ?finK19st19
  case mixK19st19|okK19st19|tabK19st19|frK19st19=>kernel_rfl
  case inK19st19=>rfl
  case keptK19st19=>exact⟨fun _ _ _ _ _ _ _ _ _ _ _ h=>h,fun _ _ _ _ _ _ _ _ _ _ _ h=>h,fun _ _ _ _ _ _ _ _ _ _ _ h=>h,fun i hne hr L w w' v hLi hC hC' hG ⟨q,e,hH,hq⟩=>⟨q,e,hG.holds hH (by simpa using hq),hq⟩,fun _ _ _ _ _ _ _ _ _ _ _ h=>h,fun _ _ _ _ _ _ _ _ _ _ _ h=>h,fun i hne hr L w w' v hLi hC hC' hG ⟨q,r,e,hH,hr,hq⟩=>⟨q,r,e,hG.holds hH (by simpa using hq),hr,hq⟩,fun _ _ _ _ _ _ _ _ _ _ _ h=>h,fun _ _ _ _ _ _ _ _ _ _ _ h=>h,fun _ _ _ _ _ _ _ _ _ _ _ h=>h,fun _ _ _ _ _ _ _ _ _ _ _ h=>h,fun _ _ _ _ _ _ _ _ _ _ _ h=>h,fun _ _ _ _ _ _ _ _ _ _ _ h=>h,fun _ _ _ _ _ _ _ _ _ _ _ h=>h,fun _ _ _ _ _ _ _ _ _ _ _ h=>h,trivial⟩
  case startK19st19=>exact MkU.start (Below.refl _ _).drew hMr.out hWr.out rfl
  case eachK19st19=>
   repeat' first|exact trivial|refine And.intro ?_ ?_
   ·intro w L f hC hLi hLd hLn ⟨d,_⟩;refine au.live rfl ?_;exact aj (v:=f 0) rfl (hC.up 0) (Writes.refl _ _) d
   ·intro w L f hC hLi hLd hLn ⟨a,_⟩;change _=_ at a;refine au.live rfl ?_;obtain⟨ev,ec,ef⟩:=evs f;refine aF (f:=99) (args:= #[.pointer (some ⟨g,0,none⟩)]) (w:=w) (by go_simp) (mivar_any b B g _ w hC.1 hl (by have:=cst_le [(1,1),(5,1),(11,5)] L;simp at this;omega)) ?_;rintro e w1 ⟨⟨s,he,hs⟩,hM,hW⟩;exact⟨_,he,hC.call 1 (by simp[cst,hLi];omega) hM hW,hW,⟨s,rfl,hs⟩⟩
   ·intro w L f hC hLi hLd hLn ⟨d91,_⟩;refine au.live rfl ?_;obtain⟨s0,e0,h0⟩:=d91;obtain⟨ev,ec,ef⟩:=evs f;refine aj (v:= .string (s0++(⟨#[32,61,32]⟩:ByteArray))) ?_ (hC.up 2) (Writes.refl _ _) ⟨_,rfl,by simp only[ByteArray.size_append];exact Nat.add_le_add h0 (by decide)⟩;go_simp;omega
   ·intro w L f hC hLi hLd hLn hF;refine au.live rfl ?_;have hbn:=aA w (.cells #[.string ⟨#[116]⟩,.string ⟨#[117]⟩] 9);have hlt:=hC.1.lt;obtain⟨ev,ec,ef⟩:=evs f;refine aj (w':=w.alloc (.cells #[.string ⟨#[116]⟩,.string ⟨#[117]⟩] 9)) (v:= .slice (some ⟨w.heap.size,0,none⟩) 2 2) (by go_simp) ((hC.up 3).below hbn) (Writes.of_below hbn _) ⟨w.heap.size,rfl,Holds.new w _ _,by omega⟩
   ·intro w L f hC hLi hLd hLn ⟨d,_⟩;refine au.live rfl ?_;exact aj (v:=f 0) rfl (hC.up 4) (Writes.refl _ _) d
   ·intro w L f hC hLi hLd hLn ⟨a,_⟩;change _=_ at a;refine au.live rfl ?_;obtain⟨ev,ec,ef⟩:=evs f;refine aF (f:=97) (args:= #[.pointer (some ⟨g,0,none⟩),.int .i64 2]) (w:=w) (by go_simp) (mnext_any b B g _ w hC.1 hl (by have:=cst_le [(1,1),(5,1),(11,5)] L;simp at this;omega) 2 (by decide) (by decide)) ?_;rintro e w1 ⟨⟨r,he,hr⟩,hM,hW⟩;exact⟨_,he,hC.call 5 (by simp[cst,hLi];omega) hM hW,hW,⟨r,rfl,hr⟩⟩
   ·intro w L f hC hLi hLd hLn ⟨d93,d95,_⟩;refine au.live rfl ?_;obtain⟨q,ea,hH,hq⟩:=d93;obtain⟨r,ei,hr⟩:=d95;obtain⟨ev,ec,ef⟩:=evs f;refine aj (v:= .pointer (some ⟨q,r,none⟩)) ?_ (hC.up 6) (Writes.refl _ _) ⟨q,r,rfl,hH,hr,hq⟩;go_simp;intro hx;omega
   ·intro w L f hC hLi hLd hLn ⟨d96,_⟩;refine au.live rfl ?_;obtain⟨q,r,ea,hH,hr,hq⟩:=d96;obtain⟨s,hs,hsM⟩:=pick_at (l:= [⟨#[116]⟩,⟨#[117]⟩]) (M:=1) hH hr (by decide);have ql:=hH.lt;obtain⟨ev,ec,ef⟩:=evs f;refine aj (v:= .string s) ?_ (hC.up 7) (Writes.refl _ _) ⟨s,rfl,hsM⟩;go_simp
   ·intro w L f hC hLi hLd hLn ⟨d92,d97,_⟩;refine au.live rfl ?_;obtain⟨s0,e0,h0⟩:=d92;obtain⟨s1,e1,h1⟩:=d97;obtain⟨ev,ec,ef⟩:=evs f;refine aj (v:= .string (s0++s1)) ?_ (hC.up 8) (Writes.refl _ _) ⟨_,rfl,by simp only[ByteArray.size_append];exact Nat.add_le_add h0 h1⟩;go_simp;omega
   ·intro w L f hC hLi hLd hLn ⟨d98,_⟩;refine au.live rfl ?_;obtain⟨s0,e0,h0⟩:=d98;obtain⟨ev,ec,ef⟩:=evs f;refine aj (v:= .string (s0++(⟨#[91]⟩:ByteArray))) ?_ (hC.up 9) (Writes.refl _ _) ⟨_,rfl,by simp only[ByteArray.size_append];exact Nat.add_le_add h0 (by decide)⟩;go_simp;omega
   ·intro w L f hC hLi hLd hLn ⟨d,_⟩;refine au.live rfl ?_;exact aj (v:=f 0) rfl (hC.up 10) (Writes.refl _ _) d
   ·intro w L f hC hLi hLd hLn ⟨a,_⟩;change _=_ at a;refine au.live rfl ?_;obtain⟨ev,ec,ef⟩:=evs f;refine aF (f:=149) (args:= #[.pointer (some ⟨g,0,none⟩),.int .i64 1]) (w:=w) (by go_simp) (msum_any 1 (by decide) b B g _ w hC.1 hl (by have:=cst_le [(1,1),(5,1),(11,5)] L;simp at this;omega)) ?_;rintro e w1 ⟨⟨s,he,hs⟩,hM,hW⟩;exact⟨_,he,hC.call 11 (by simp[cst,hLi];omega) hM hW,hW,⟨s,rfl,hs⟩⟩
   ·intro w L f hC hLi hLd hLn ⟨d99,d101,_⟩;refine au.live rfl ?_;obtain⟨s0,e0,h0⟩:=d99;obtain⟨s1,e1,h1⟩:=d101;obtain⟨ev,ec,ef⟩:=evs f;refine aj (v:= .string (s0++s1)) ?_ (hC.up 12) (Writes.refl _ _) ⟨_,rfl,by simp only[ByteArray.size_append];exact Nat.add_le_add h0 h1⟩;go_simp;omega
   ·intro w L f hC hLi hLd hLn ⟨d102,_⟩;refine au.live rfl ?_;obtain⟨s0,e0,h0⟩:=d102;obtain⟨ev,ec,ef⟩:=evs f;refine aj (v:= .string (s0++(⟨#[93,59,32]⟩:ByteArray))) ?_ (hC.up 13) (Writes.refl _ _) ⟨_,rfl,by simp only[ByteArray.size_append];exact Nat.add_le_add h0 (by decide)⟩;go_simp;omega
   ·intro w L f hC hLi hLd hLn ⟨d,_⟩;refine au.live rfl ?_;exact aj (v:=f 103) rfl (hC.up 14) (Writes.refl _ _) d
  intro x w' hC hV

  obtain⟨s,hs,hsM⟩:=hV 14 _ rfl rfl;simp only[framed,hs];go_wp2_with fail;go_ret;exact⟨⟨s,rfl,by omega⟩,hC.1.more (by have:=cst_le [(1,1),(5,1),(11,5)] fun _=>true;simp at this;omega),hC.2⟩
 have c7:((r2:Int)==7)=false:=by simp;omega
 by_cases q8:r2=8
 ·subst q8;have hk2:=Za (And.intro hSC hSM);clear hb';obtain⟨K,hK⟩:∃K,K=k+2:=⟨_,rfl⟩;have hMr:=Za (hM2.out.more (Nat.le_of_eq hK.symm));have hWr:=hW2;clear hM2 hW2;go_upto_region 21 with(fail)
  refine aC ((fun L w v=>∃q,v= .slice (some ⟨q,0,none⟩) 2 2∧Holds w q 9 #[.string ⟨#[116]⟩,.string ⟨#[117]⟩]∧q≠g)::(eqv (.pointer (some ⟨g,0,none⟩)))::(fun L w v=>∃r:Nat,v= .int .i64 r∧r<2)::(fun L w v=>∃q r,v= .pointer (some ⟨q,r,none⟩)∧Holds w q 9 #[.string ⟨#[116]⟩,.string ⟨#[117]⟩]∧r<2∧q≠g)::(fun L w v=>∃s:ByteArray,v= .string s∧s.size≤1)::(fun L w v=>∃s:ByteArray,v= .string s∧s.size≤1+1)::(eqv (.pointer (some ⟨g,0,none⟩)))::(fun L w v=>∃s:ByteArray,v= .string s∧s.size≤25)::(fun L w v=>∃s:ByteArray,v= .string s∧s.size≤1+1+25)::(fun L w v=>∃s:ByteArray,v= .string s∧s.size≤1+1+25+4)::(eqv (.pointer (some ⟨g,0,none⟩)))::(fun L w v=>∃s:ByteArray,v= .string s∧s.size≤25)::(fun L w v=>∃s:ByteArray,v= .string s∧s.size≤1+1+25+4+25)::(fun L w v=>∃s:ByteArray,v= .string s∧s.size≤1+1+25+4+25+2)::(fun L w v=>∃s:ByteArray,v= .string s∧s.size≤1+1+25+4+25+2)::[])
   (⟨[],0,[]⟩::(rn1 0)::(rd1 107 1)::⟨[(106,some 0),(108,some 2)],0,[]⟩::(rd1 109 3)::(rd1 110 4)::(rn1 0)::(rd1 112 6)::⟨[(111,some 5),(113,some 7)],0,[]⟩::(rd1 114 8)::(rn1 0)::(rd1 116 10)::⟨[(115,some 9),(117,some 11)],0,[]⟩::(rd1 118 12)::(rd1 119 13)::[])
   (no::no::no::no::no::no::so 14::no::no::no::no::no::no::no::no::no::no::no::no::no::no::no::no::no::no::no::no::no::no::no::no::no::no::no::no::no::no::no::no::no::no::no::no::no::no::no::no::no::no::no::no::no::no::no::no::no::no::no::no::no::no::no::no::no::no::no::no::no::no::no::no::no::no::no::no::no::no::no::no::no::no::no::no::no::no::no::no::no::no::no::no::no::no::no::no::no::no::no::no::no::no::no::no::no::no::no::so 0::so 1::so 2::so 3::so 4::so 5::so 6::so 7::so 8::so 9::so 10::so 11::so 12::so 13::[])
   (fun L w'=>MkU b B g K [(2,1),(7,5),(11,5)] w0 L w') (fun _ w w'=>Writes [some g] w w') ?mixK21st21 ?okK21st21 ?tabK21st21 ?frK21st21 ?inK21st21 ?keptK21st21 ?startK21st21 ?eachK21st21 ?finK21st21
  case mixK21st21|okK21st21|tabK21st21|frK21st21=>kernel_rfl
  case inK21st21=>rfl
  case keptK21st21=>exact⟨fun i hne hr L w w' v hLi hC hC' hG ⟨q,e,hH,hq⟩=>⟨q,e,hG.holds hH (by simpa using hq),hq⟩,fun _ _ _ _ _ _ _ _ _ _ _ h=>h,fun _ _ _ _ _ _ _ _ _ _ _ h=>h,fun i hne hr L w w' v hLi hC hC' hG ⟨q,r,e,hH,hr,hq⟩=>⟨q,r,e,hG.holds hH (by simpa using hq),hr,hq⟩,fun _ _ _ _ _ _ _ _ _ _ _ h=>h,fun _ _ _ _ _ _ _ _ _ _ _ h=>h,fun _ _ _ _ _ _ _ _ _ _ _ h=>h,fun _ _ _ _ _ _ _ _ _ _ _ h=>h,fun _ _ _ _ _ _ _ _ _ _ _ h=>h,fun _ _ _ _ _ _ _ _ _ _ _ h=>h,fun _ _ _ _ _ _ _ _ _ _ _ h=>h,fun _ _ _ _ _ _ _ _ _ _ _ h=>h,fun _ _ _ _ _ _ _ _ _ _ _ h=>h,fun _ _ _ _ _ _ _ _ _ _ _ h=>h,fun _ _ _ _ _ _ _ _ _ _ _ h=>h,trivial⟩
  case startK21st21=>exact MkU.start (Below.refl _ _).drew hMr.out hWr.out rfl
  case eachK21st21=>
   repeat' first|exact trivial|refine And.intro ?_ ?_
   ·intro w L f hC hLi hLd hLn hF;refine au.live rfl ?_;have hbn:=aA w (.cells #[.string ⟨#[116]⟩,.string ⟨#[117]⟩] 9);have hlt:=hC.1.lt;obtain⟨ev,ec,ef⟩:=evs f;refine aj (w':=w.alloc (.cells #[.string ⟨#[116]⟩,.string ⟨#[117]⟩] 9)) (v:= .slice (some ⟨w.heap.size,0,none⟩) 2 2) (by go_simp) ((hC.up 0).below hbn) (Writes.of_below hbn _) ⟨w.heap.size,rfl,Holds.new w _ _,by omega⟩
   ·intro w L f hC hLi hLd hLn ⟨d,_⟩;refine au.live rfl ?_;exact aj (v:=f 0) rfl (hC.up 1) (Writes.refl _ _) d
   ·intro w L f hC hLi hLd hLn ⟨a,_⟩;change _=_ at a;refine au.live rfl ?_;obtain⟨ev,ec,ef⟩:=evs f;refine aF (f:=97) (args:= #[.pointer (some ⟨g,0,none⟩),.int .i64 2]) (w:=w) (by go_simp) (mnext_any b B g _ w hC.1 hl (by have:=cst_le [(2,1),(7,5),(11,5)] L;simp at this;omega) 2 (by decide) (by decide)) ?_;rintro e w1 ⟨⟨r,he,hr⟩,hM,hW⟩;exact⟨_,he,hC.call 2 (by simp[cst,hLi];omega) hM hW,hW,⟨r,rfl,hr⟩⟩
   ·intro w L f hC hLi hLd hLn ⟨d106,d108,_⟩;refine au.live rfl ?_;obtain⟨q,ea,hH,hq⟩:=d106;obtain⟨r,ei,hr⟩:=d108;obtain⟨ev,ec,ef⟩:=evs f;refine aj (v:= .pointer (some ⟨q,r,none⟩)) ?_ (hC.up 3) (Writes.refl _ _) ⟨q,r,rfl,hH,hr,hq⟩;go_simp;intro hx;omega
   ·intro w L f hC hLi hLd hLn ⟨d109,_⟩;refine au.live rfl ?_;obtain⟨q,r,ea,hH,hr,hq⟩:=d109;obtain⟨s,hs,hsM⟩:=pick_at (l:= [⟨#[116]⟩,⟨#[117]⟩]) (M:=1) hH hr (by decide);have ql:=hH.lt;obtain⟨ev,ec,ef⟩:=evs f;refine aj (v:= .string s) ?_ (hC.up 4) (Writes.refl _ _) ⟨s,rfl,hsM⟩;go_simp
   ·intro w L f hC hLi hLd hLn ⟨d110,_⟩;refine au.live rfl ?_;obtain⟨s0,e0,h0⟩:=d110;obtain⟨ev,ec,ef⟩:=evs f;refine aj (v:= .string (s0++(⟨#[91]⟩:ByteArray))) ?_ (hC.up 5) (Writes.refl _ _) ⟨_,rfl,by simp only[ByteArray.size_append];exact Nat.add_le_add h0 (by decide)⟩;go_simp;omega
   ·intro w L f hC hLi hLd hLn ⟨d,_⟩;refine au.live rfl ?_;exact aj (v:=f 0) rfl (hC.up 6) (Writes.refl _ _) d
   ·intro w L f hC hLi hLd hLn ⟨a,_⟩;change _=_ at a;refine au.live rfl ?_;obtain⟨ev,ec,ef⟩:=evs f;refine aF (f:=149) (args:= #[.pointer (some ⟨g,0,none⟩),.int .i64 1]) (w:=w) (by go_simp) (msum_any 1 (by decide) b B g _ w hC.1 hl (by have:=cst_le [(2,1),(7,5),(11,5)] L;simp at this;omega)) ?_;rintro e w1 ⟨⟨s,he,hs⟩,hM,hW⟩;exact⟨_,he,hC.call 7 (by simp[cst,hLi];omega) hM hW,hW,⟨s,rfl,hs⟩⟩
   ·intro w L f hC hLi hLd hLn ⟨d111,d113,_⟩;refine au.live rfl ?_;obtain⟨s0,e0,h0⟩:=d111;obtain⟨s1,e1,h1⟩:=d113;obtain⟨ev,ec,ef⟩:=evs f;refine aj (v:= .string (s0++s1)) ?_ (hC.up 8) (Writes.refl _ _) ⟨_,rfl,by simp only[ByteArray.size_append];exact Nat.add_le_add h0 h1⟩;go_simp;omega
   ·intro w L f hC hLi hLd hLn ⟨d114,_⟩;refine au.live rfl ?_;obtain⟨s0,e0,h0⟩:=d114;obtain⟨ev,ec,ef⟩:=evs f;refine aj (v:= .string (s0++(⟨#[93,32,61,32]⟩:ByteArray))) ?_ (hC.up 9) (Writes.refl _ _) ⟨_,rfl,by simp only[ByteArray.size_append];exact Nat.add_le_add h0 (by decide)⟩;go_simp;omega
   ·intro w L f hC hLi hLd hLn ⟨d,_⟩;refine au.live rfl ?_;exact aj (v:=f 0) rfl (hC.up 10) (Writes.refl _ _) d
   ·intro w L f hC hLi hLd hLn ⟨a,_⟩;change _=_ at a;refine au.live rfl ?_;obtain⟨ev,ec,ef⟩:=evs f;refine aF (f:=149) (args:= #[.pointer (some ⟨g,0,none⟩),.int .i64 1]) (w:=w) (by go_simp) (msum_any 1 (by decide) b B g _ w hC.1 hl (by have:=cst_le [(2,1),(7,5),(11,5)] L;simp at this;omega)) ?_;rintro e w1 ⟨⟨s,he,hs⟩,hM,hW⟩;exact⟨_,he,hC.call 11 (by simp[cst,hLi];omega) hM hW,hW,⟨s,rfl,hs⟩⟩
   ·intro w L f hC hLi hLd hLn ⟨d115,d117,_⟩;refine au.live rfl ?_;obtain⟨s0,e0,h0⟩:=d115;obtain⟨s1,e1,h1⟩:=d117;obtain⟨ev,ec,ef⟩:=evs f;refine aj (v:= .string (s0++s1)) ?_ (hC.up 12) (Writes.refl _ _) ⟨_,rfl,by simp only[ByteArray.size_append];exact Nat.add_le_add h0 h1⟩;go_simp;omega
   ·intro w L f hC hLi hLd hLn ⟨d118,_⟩;refine au.live rfl ?_;obtain⟨s0,e0,h0⟩:=d118;obtain⟨ev,ec,ef⟩:=evs f;refine aj (v:= .string (s0++(⟨#[59,32]⟩:ByteArray))) ?_ (hC.up 13) (Writes.refl _ _) ⟨_,rfl,by simp only[ByteArray.size_append];exact Nat.add_le_add h0 (by decide)⟩;go_simp;omega
   ·intro w L f hC hLi hLd hLn ⟨d,_⟩;refine au.live rfl ?_;exact aj (v:=f 119) rfl (hC.up 14) (Writes.refl _ _) d
  intro x w' hC hV

  obtain⟨s,hs,hsM⟩:=hV 14 _ rfl rfl;simp only[framed,hs];go_wp2_with fail;go_ret;exact⟨⟨s,rfl,by omega⟩,hC.1.more (by have:=cst_le [(2,1),(7,5),(11,5)] fun _=>true;simp at this;omega),hC.2⟩
 have c8:((r2:Int)==8)=false:=by simp;omega
 by_cases q9:r2=9
 ·subst q9;go_wp2_with fail;refine(mnext_any b B g _ w2 hM2.out hl (by omega) 4 (by decide) (by decide)).mono ?_;rintro e w3 ⟨⟨r3,rfl,hr3⟩,hM3,hW3⟩;replace hW3:=Za (hW2.out.trans hW3);replace hM3:=Za hM3;go_wp2_with fail;refine(mivar_any b B g _ w3 hM3.out hl (by omega)).mono ?_;rintro e w4 ⟨⟨s4,rfl,hs4⟩,hM4,hW4⟩;replace hW4:=Za (hW3.out.trans hW4);replace hM4:=Za hM4
  go_wp2_with fail;refine(mname_any w4 r3).mono ?_;rintro e wn ⟨⟨sn,rfl,hsn⟩,hbn⟩;have hMn:=Za (hM4.out.below hbn);have hWn:=Za (hW4.out.trans (Writes.of_below hbn _));clear hbn;go_wp2_with fail;refine(margs_any b B g _ wn hMn.out hl (by omega) r3 (by omega) kk hkk).mono ?_;rintro e wb ⟨⟨sb,rfl,hsb⟩,hMb,hWb⟩;have hE:=Za (And.intro hMb (hWn.out.trans hWb));clear hMb hWb
  go_wp2_with fail;go_ret;exact⟨⟨_,rfl,by simp only[ByteArray.size_append,bs_lit,List.size_toArray,List.length_cons,List.length_nil];omega⟩,hE.out.1.more (by omega),hE.out.2⟩
 have c9:((r2:Int)==9)=false:=by simp;omega
 by_cases q10:r2=10
 ·subst q10;go_wp2_with fail;refine(mnext_any b B g _ w2 hM2.out hl (by omega) 4 (by decide) (by decide)).mono ?_;rintro e w3 ⟨⟨r3,rfl,hr3⟩,hM3,hW3⟩;replace hW3:=Za (hW2.out.trans hW3);replace hM3:=Za hM3;go_wp2_with fail;refine(mivar_any b B g _ w3 hM3.out hl (by omega)).mono ?_;rintro e w4 ⟨⟨s4,rfl,hs4⟩,hM4,hW4⟩;replace hW4:=Za (hW3.out.trans hW4);replace hM4:=Za hM4
  go_wp2_with fail;refine(mname_any w4 r3).mono ?_;rintro e wn ⟨⟨sn,rfl,hsn⟩,hbn⟩;have hMn:=Za (hM4.out.below hbn);have hWn:=Za (hW4.out.trans (Writes.of_below hbn _));clear hbn;go_wp2_with fail;refine(margs_any b B g _ wn hMn.out hl (by omega) r3 (by omega) kk hkk).mono ?_;rintro e wb ⟨⟨sb,rfl,hsb⟩,hMb,hWb⟩;have hE:=Za (And.intro hMb (hWn.out.trans hWb));clear hMb hWb
  go_wp2_with fail;go_ret;exact⟨⟨_,rfl,by simp only[ByteArray.size_append,bs_lit,List.size_toArray,List.length_cons,List.length_nil];omega⟩,hE.out.1.more (by omega),hE.out.2⟩
 have c10:((r2:Int)==10)=false:=by simp;omega
 by_cases q11:r2=11
 ·subst q11;go_wp2_with fail;refine(mnext_any b B g _ w2 hM2.out hl (by omega) 4 (by decide) (by decide)).mono ?_;rintro e w3 ⟨⟨r3,rfl,hr3⟩,hM3,hW3⟩;replace hW3:=Za (hW2.out.trans hW3);replace hM3:=Za hM3;go_wp2_with fail;refine(mname_any w3 r3).mono ?_;rintro e wn ⟨⟨sn,rfl,hsn⟩,hbn⟩;have hMn:=Za (hM3.out.below hbn);have hWn:=Za (hW3.out.trans (Writes.of_below hbn _))
  clear hbn;go_wp2_with fail;refine(mnext_any b B g _ wn hMn.out hl (by omega) 9 (by decide) (by decide)).mono ?_;rintro e wq ⟨⟨rq,rfl,hrq⟩,hMq,hWq⟩;replace hWq:=Za (hWn.out.trans hWq);replace hMq:=Za hMq;have cA:=Za (margs_any b B g _ wq hMq.out hl (by omega) (r3+rq/8) (by omega) kk hkk);go_wp2_with fail;refine cA.out.mono ?_;rintro e wb ⟨⟨sb,rfl,hsb⟩,hMb,hWb⟩
  have hE:=Za (And.intro hMb (hWq.out.trans hWb));clear hMb hWb;go_wp2_with fail;go_ret;exact⟨⟨_,rfl,by simp only[ByteArray.size_append,bs_lit,List.size_toArray,List.length_cons,List.length_nil];omega⟩,hE.out.1.more (by omega),hE.out.2⟩
 have c11:((r2:Int)==11)=false:=by simp;omega
 by_cases q12:r2=12
 ·subst q12;go_wp2_with fail;refine(msum_any 1 (by decide) b B g _ w2 hM2.out hl (by omega)).mono ?_;rintro e w3 ⟨⟨s3,rfl,hs3⟩,hM3,hW3⟩;replace hW3:=Za (hW2.out.trans hW3);replace hM3:=Za hM3;go_wp2_with fail;go_ret
  exact⟨⟨_,rfl,by first|omega| (simp only[ByteArray.size_append,bs_lit,List.size_toArray,List.length_cons,List.length_nil];omega)⟩,hM3.out.more (by omega),hW3.out⟩
 have c12:((r2:Int)==12)=false:=by simp;omega
 by_cases q13:r2=13
 ·subst q13;go_wp2_with fail;refine(cd1 b B g _ w2 hM2.out hl (by omega) kk hkk).mono ?_;rintro e w3 ⟨⟨s3,rfl,hs3⟩,hM3,hW3⟩;replace hW3:=Za (hW2.out.trans hW3);replace hM3:=Za hM3;go_wp2_with fail;go_ret;exact⟨⟨_,rfl,by first|omega| (simp only[ByteArray.size_append,bs_lit,List.size_toArray,List.length_cons,List.length_nil];omega)⟩,hM3.out.more (by omega),hW3.out⟩
 have c13:((r2:Int)==13)=false:=by simp;omega
 by_cases hd0:d=0
 ·subst hd0;go_wp2_with fail;refine(mivar_any b B g _ w2 hM2.out hl (by omega)).mono ?_;rintro e w3 ⟨⟨s3,rfl,hs3⟩,hM3,hW3⟩;replace hW3:=Za (hW2.out.trans hW3);replace hM3:=Za hM3;go_wp2_with fail;refine(msum_any 1 (by decide) b B g _ w3 hM3.out hl (by omega)).mono ?_;rintro e w4 ⟨⟨s4,rfl,hs4⟩,hM4,hW4⟩;replace hW4:=Za (hW3.out.trans hW4);replace hM4:=Za hM4
  go_wp2_with fail;go_ret;exact⟨⟨_,rfl,by first|omega| (simp only[ByteArray.size_append,bs_lit,List.size_toArray,List.length_cons,List.length_nil];omega)⟩,hM4.out.more (by omega),hW4.out⟩
 obtain⟨p,rfl⟩:∃p,d=p+1:=⟨d-1,by omega⟩;have cB:=Za (hb'.out p rfl)
 have cd:¬((p:Int)+1≤0):=by omega
 clear hb'
 have hp1:p=0∨p=1:=by omega
 obtain⟨X,hX⟩:∃x,x=SC p:=⟨_,rfl⟩;obtain⟨Y,hY⟩:∃x,x=SM p:=⟨_,rfl⟩
 have hsY:Y≤10000:=by rw[hY];rcases hp1 with rfl|rfl<;>decide
 have hsX:X≤500:=by rw[hX];rcases hp1 with rfl|rfl<;>decide
 have hSC2:SC (p+1)=6*X+80:=by rw[hX];rfl
 have hSM2:SM (p+1)=6*Y+300:=by rw[hY];rfl
 clear hp1;go_wp2_with fail;refine(mnext_any b B g _ w2 hM2.out hl (by omega) 2 (by decide) (by decide)).mono ?_;rintro e w3 ⟨⟨r3,rfl,hr3⟩,hM3,hW3⟩;replace hW3:=Za (hW2.out.trans hW3);replace hM3:=Za hM3;by_cases hq:r3=0
 ·subst hq;go_wp2_with fail;refine(cd1 b B g _ w3 hM3.out hl (by omega) kk hkk).mono ?_;rintro e w4 ⟨⟨s4,rfl,hs4⟩,hM4,hW4⟩;replace hW4:=Za (hW3.out.trans hW4);replace hM4:=Za hM4;go_wp2_with fail;refine(cB.out b B g _ w4 hM4.out hl (by omega) kk hkk).mono ?_;rintro e w5 ⟨⟨s5,rfl,hs5⟩,hM5,hW5⟩;replace hW5:=Za (hW4.out.trans hW5);replace hM5:=Za hM5;rw[←hX]at hM5
  rw[←hY]at hs5;go_wp2_with fail;refine(mnext_any b B g _ w5 hM5.out hl (by omega) 2 (by decide) (by decide)).mono ?_;rintro e w6 ⟨⟨r6,rfl,hr6⟩,hM6,hW6⟩;replace hW6:=Za (hW5.out.trans hW6);replace hM6:=Za hM6;by_cases hq2:r6=0
  ·subst hq2;go_wp2_with fail;refine(cB.out b B g _ w6 hM6.out hl (by omega) kk hkk).mono ?_;rintro e w7 ⟨⟨s7,rfl,hs7⟩,hM7,hW7⟩;replace hW7:=Za (hW6.out.trans hW7);replace hM7:=Za hM7;rw[←hX]at hM7;rw[←hY]at hs7;go_wp2_with fail;go_ret
   exact⟨⟨_,rfl,by first|omega| (simp only[ByteArray.size_append,bs_lit,List.size_toArray,List.length_cons,List.length_nil];omega)⟩,hM7.out.more (by omega),hW7.out⟩
  have cq2:((r6:Int)==0)=false:=by simp;omega
  go_wp2_with fail;go_ret;exact⟨⟨_,rfl,by first|omega| (simp only[ByteArray.size_append,bs_lit,List.size_toArray,List.length_cons,List.length_nil];omega)⟩,hM6.out.more (by omega),hW6.out⟩
 have cq:((r3:Int)==0)=false:=by simp;omega
 go_wp2_with fail;refine(cd1 b B g _ w3 hM3.out hl (by omega) kk hkk).mono ?_;rintro e w4 ⟨⟨s4,rfl,hs4⟩,hM4,hW4⟩;replace hW4:=Za (hW3.out.trans hW4);replace hM4:=Za hM4;go_wp2_with fail;refine(cB.out b B g _ w4 hM4.out hl (by omega) kk hkk).mono ?_;rintro e w5 ⟨⟨s5,rfl,hs5⟩,hM5,hW5⟩;replace hW5:=Za (hW4.out.trans hW5);replace hM5:=Za hM5;rw[←hX]at hM5;rw[←hY]at hs5
 go_wp2_with fail;go_ret;exact⟨⟨_,rfl,by first|omega| (simp only[ByteArray.size_append,bs_lit,List.size_toArray,List.length_cons,List.length_nil];omega)⟩,hM5.out.more (by omega),hW5.out⟩
end Go.Proofs.YtpndglghpojjkaaGreat
