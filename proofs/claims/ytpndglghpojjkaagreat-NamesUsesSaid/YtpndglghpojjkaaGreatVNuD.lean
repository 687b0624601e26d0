/-
  The seat's maker: a condition, arguments.
-/
import Derived.Test.YtpndglghpojjkaaGreatVNuC
import Derived.Deep.DeepCutAuto
set_option maxRecDepth 1000000
set_option maxHeartbeats 8000000

namespace Go.Proofs.YtpndglghpojjkaaGreat
open Go.RowKit Go.Deep

def CdOk (d:Nat):Prop:=∀(b:List UInt8) (B g k:Nat) (w0:World),Mk b B g k w0→b.length≤100000→k+50*d≤860000→∀kk:Nat,kk<4→Calls Tryz.prog 152 #[.pointer (some ⟨g,0,none⟩),.int .i64 kk,.int .i64 (d:Nat)] w0 (MkOut b B g (k+(21+22*d)) (66+74*d) w0)
set_option maxHeartbeats 4000000 in
theorem mcond_step (d:Nat) (hd:d≤1) (ih:d=1→CdOk 0):CdOk d:=by
 intro b B g k w0 h hl hk kk hkk;have hM0:=Za h;have hW0:=Za (Writes.refl [some g] w0);clear h;go_enter Tryz.func152,Tryz.ntmps152;go_wp2_with fail;refine(mnext_any b B g _ w0 hM0.out hl (by omega) 10 (by decide) (by decide)).mono ?_;rintro e w1 ⟨⟨r1,rfl,hr1⟩,hM1,hW1⟩;replace hW1:=Za (hW0.out.trans hW1);replace hM1:=Za hM1;by_cases hc:d=1∧r1≤2
 ·obtain⟨rfl,hr2⟩:=hc;have ih':=ih rfl;by_cases q0:r1=0
  ·subst q0;go_wp2_with fail;refine(ih' b B g _ w1 hM1.out hl (by omega) kk hkk).mono ?_;rintro e w2 ⟨⟨s2,rfl,hs2⟩,hM2,hW2⟩;replace hW2:=Za (hW1.out.trans hW2);replace hM2:=Za hM2;go_wp2_with fail;go_ret;exact⟨⟨_,rfl,by first|omega| (simp only[ByteArray.size_append,bs_lit,List.size_toArray,List.length_cons,List.length_nil];omega)⟩,hM2.out.more (by omega),hW2.out⟩
  have c0:((r1:Int)==0)=false:=by simp;omega
  by_cases q1:r1=1
  ·subst q1;go_wp2_with fail;refine(ih' b B g _ w1 hM1.out hl (by omega) kk hkk).mono ?_;rintro e w2 ⟨⟨s2,rfl,hs2⟩,hM2,hW2⟩;replace hW2:=Za (hW1.out.trans hW2);replace hM2:=Za hM2;go_wp2_with fail;refine(ih' b B g _ w2 hM2.out hl (by omega) kk hkk).mono ?_;rintro e w3 ⟨⟨s3,rfl,hs3⟩,hM3,hW3⟩;replace hW3:=Za (hW2.out.trans hW3);replace hM3:=Za hM3;go_wp2_with fail;go_ret
   exact⟨⟨_,rfl,by first|omega| (simp only[ByteArray.size_append,bs_lit,List.size_toArray,List.length_cons,List.length_nil];omega)⟩,hM3.out.more (by omega),hW3.out⟩
  have c1:((r1:Int)==1)=false:=by simp;omega
  by_cases q2:r1=2
  ·subst q2;go_wp2_with fail;refine(ih' b B g _ w1 hM1.out hl (by omega) kk hkk).mono ?_;rintro e w2 ⟨⟨s2,rfl,hs2⟩,hM2,hW2⟩;replace hW2:=Za (hW1.out.trans hW2);replace hM2:=Za hM2;go_wp2_with fail;refine(ih' b B g _ w2 hM2.out hl (by omega) kk hkk).mono ?_;rintro e w3 ⟨⟨s3,rfl,hs3⟩,hM3,hW3⟩;replace hW3:=Za (hW2.out.trans hW3);replace hM3:=Za hM3;go_wp2_with fail;go_ret
   exact⟨⟨_,rfl,by first|omega| (simp only[ByteArray.size_append,bs_lit,List.size_toArray,List.length_cons,List.length_nil];omega)⟩,hM3.out.more (by omega),hW3.out⟩
  exact absurd hr2 (by omega)
 have hd0:d=0∨3≤r1:=by omega
 clear hc ih;go_upto_region 2 with(fail);go_cut [10] (fun v wc=>v= .bool false∧wc=w1)
 case' first=>
  by_cases q:r1=0
  ·obtain rfl:d=0:=by omega
   subst q;go_wp2_with fail
   go_meet
   case rel=>exact⟨rfl,rfl⟩
  ·have c:((r1:Int)==0)=false:=by simp;omega
   go_wp2_with fail
   go_meet
   case rel=>exact⟨rfl,rfl⟩
 obtain⟨rfl,rfl⟩:=hcut;rename World=>w1;go_upto_region 4 with(fail);go_cut [24] (fun v wc=>v= .bool false∧wc=w1)
 case' first=>
  by_cases q:r1=1
  ·obtain rfl:d=0:=by omega
   subst q;go_wp2_with fail
   go_meet
   case rel=>exact⟨rfl,rfl⟩
  ·have c:((r1:Int)==1)=false:=by simp;omega
   go_wp2_with fail
   go_meet
   case rel=>exact⟨rfl,rfl⟩
 obtain⟨rfl,rfl⟩:=hcut;rename World=>w1;go_upto_region 6 with(fail);go_cut [41] (fun v wc=>v= .bool false∧wc=w1)
 case' first=>
  by_cases q:r1=2
  ·obtain rfl:d=0:=by omega
   subst q;go_wp2_with fail
   go_meet
   case rel=>exact⟨rfl,rfl⟩
  ·have c:((r1:Int)==2)=false:=by simp;omega
   go_wp2_with fail
   go_meet
   case rel=>exact⟨rfl,rfl⟩
 obtain⟨rfl,rfl⟩:=hcut;rename World=>w1;by_cases q3:r1=3
 ·subst q3;go_wp2_with fail;refine(mpvar_any b B g _ w1 hM1.out hl (by omega) kk hkk).mono ?_;rintro e w2 ⟨⟨s2,rfl,hs2⟩,hM2,hW2⟩;replace hW2:=Za (hW1.out.trans hW2);replace hM2:=Za hM2;have hbn:=aA w2 (.cells #[.string ⟨#[32,61,61,32,110,117,108,108]⟩,.string ⟨#[32,33,61,32,110,117,108,108]⟩] 9)
  have hH:=Holds.new w2 9 #[.string ⟨#[32,61,61,32,110,117,108,108]⟩,.string ⟨#[32,33,61,32,110,117,108,108]⟩];obtain⟨wa,hwa⟩:∃z,z=w2.alloc (.cells #[.string ⟨#[32,61,61,32,110,117,108,108]⟩,.string ⟨#[32,33,61,32,110,117,108,108]⟩] 9):=⟨_,rfl⟩;obtain⟨ga,hga⟩:∃z,z=w2.heap.size:=⟨_,rfl⟩;rw[←hwa]at hbn hH;rw[←hga]at hH
  have hne:ga≠g:=by have:=hM2.out.lt;omega
  have hMa:=Za (hM2.out.below hbn);have hWa:=Za (hW2.out.trans (Writes.of_below hbn _));have hfo:=Za hwa.symm;have hgo:=Za hga.symm;have hHa:=Za hH;clear hbn hH hwa hga;go_wp2_with fail;rw[hfo.out,hgo.out];clear hfo hgo;refine(mnext_any b B g _ wa hMa.out hl (by omega) 2 (by decide) (by decide)).mono ?_;rintro e wb ⟨⟨rb,rfl,hrb⟩,hMb,hWb⟩
  have hHb:=hWb.holds hHa.out (by simpa using hne);obtain⟨sb,hsb,hsM⟩:=pick_at (l:= [⟨#[32,61,61,32,110,117,108,108]⟩,⟨#[32,33,61,32,110,117,108,108]⟩]) (M:=8) hHb hrb (by decide);have ql:=hHb.lt;have hE:=Za (And.intro hMb (hWa.out.trans hWb));clear hHb hMb hWb hWa hHa;go_wp2_with fail;go_ret
  exact⟨⟨_,rfl,by simp only[ByteArray.size_append];omega⟩,hE.out.1.more (by omega),hE.out.2⟩
 have c3:((r1:Int)==3)=false:=by simp;omega
 obtain⟨K,hK⟩:∃K,K=k+1:=⟨_,rfl⟩;have hMr:=Za (hM1.out.more (Nat.le_of_eq hK.symm));have hWr:=hW1;clear hM1 hW1;go_upto_region 10 with(fail)
 refine aC ((eqv (.pointer (some ⟨g,0,none⟩)))::(fun L w v=>∃s:ByteArray,v= .string s∧s.size≤1)::(fun L w v=>∃s:ByteArray,v= .string s∧s.size≤1+1)::(fun L w v=>∃q,v= .slice (some ⟨q,0,none⟩) 6 6∧Holds w q 9 #[.string ⟨#[60]⟩,.string ⟨#[60,61]⟩,.string ⟨#[62]⟩,.string ⟨#[62,61]⟩,.string ⟨#[61,61]⟩,.string ⟨#[33,61]⟩]∧q≠g)::(eqv (.pointer (some ⟨g,0,none⟩)))::(fun L w v=>∃r:Nat,v= .int .i64 r∧r<6)::(fun L w v=>∃q r,v= .pointer (some ⟨q,r,none⟩)∧Holds w q 9 #[.string ⟨#[60]⟩,.string ⟨#[60,61]⟩,.string ⟨#[62]⟩,.string ⟨#[62,61]⟩,.string ⟨#[61,61]⟩,.string ⟨#[33,61]⟩]∧r<6∧q≠g)::(fun L w v=>∃s:ByteArray,v= .string s∧s.size≤2)::(fun L w v=>∃s:ByteArray,v= .string s∧s.size≤1+1+2)::(fun L w v=>∃s:ByteArray,v= .string s∧s.size≤1+1+2+1)::(eqv (.pointer (some ⟨g,0,none⟩)))::(fun L w v=>∃s:ByteArray,v= .string s∧s.size≤25)::(fun L w v=>∃s:ByteArray,v= .string s∧s.size≤1+1+2+1+25)::(fun L w v=>∃s:ByteArray,v= .string s∧s.size≤1+1+2+1+25)::[])
  ((rn1 0)::(rd1 71 0)::(rd1 72 1)::⟨[],0,[]⟩::(rn1 0)::(rd1 75 4)::⟨[(74,some 3),(76,some 5)],0,[]⟩::(rd1 77 6)::⟨[(73,some 2),(78,some 7)],0,[]⟩::(rd1 79 8)::(rn1 0)::(rd1 81 10)::⟨[(80,some 9),(82,some 11)],0,[]⟩::(rd1 83 12)::[])
  (no::no::no::no::no::no::so 13::no::no::no::no::no::no::no::no::no::no::no::no::no::no::no::no::no::no::no::no::no::no::no::no::no::no::no::no::no::no::no::no::no::no::no::no::no::no::no::no::no::no::no::no::no::no::no::no::no::no::no::no::no::no::no::no::no::no::no::no::no::no::no::no::so 0::so 1::so 2::so 3::so 4::so 5::so 6::so 7::so 8::so 9::so 10::so 11::so 12::[])
  (fun L w'=>MkU b B g K [(1,1),(5,1),(11,5)] w0 L w') (fun _ w w'=>Writes [some g] w w') ?mixK10cond ?okK10cond ?tabK10cond ?frK10cond ?inK10cond ?keptK10cond ?startK10cond ?eachK10cond ?finK10cond
 case mixK10cond|okK10cond|tabK10cond|frK10cond=>kernel_rfl
 case inK10cond=>rfl
 case keptK10cond=>exact⟨fun _ _ _ _ _ _ _ _ _ _ _ h=>h,fun _ _ _ _ _ _ _ _ _ _ _ h=>h,fun _ _ _ _ _ _ _ _ _ _ _ h=>h,fun i hne hr L w w' v hLi hC hC' hG ⟨q,e,hH,hq⟩=>⟨q,e,hG.holds hH (by simpa using hq),hq⟩,fun _ _ _ _ _ _ _ _ _ _ _ h=>h,fun _ _ _ _ _ _ _ _ _ _ _ h=>h,fun i hne hr L w w' v hLi hC hC' hG ⟨q,r,e,hH,hr,hq⟩=>⟨q,r,e,hG.holds hH (by simpa using hq),hr,hq⟩,fun _ _ _ _ _ _ _ _ _ _ _ h=>h,fun _ _ _ _ _ _ _ _ _ _ _ h=>h,fun _ _ _ _ _ _ _ _ _ _ _ h=>h,fun _ _ _ _ _ _ _ _ _ _ _ h=>h,fun _ _ _ _ _ _ _ _ _ _ _ h=>h,fun _ _ _ _ _ _ _ _ _ _ _ h=>h,fun _ _ _ _ _ _ _ _ _ _ _ h=>h,trivial⟩
 case startK10cond=>exact MkU.start (Below.refl _ _).drew hMr.out hWr.out rfl
 case eachK10cond=>
  repeat' first|exact trivial|refine And.intro ?_ ?_
  ·intro w L f hC hLi hLd hLn ⟨d,_⟩;refine au.live rfl ?_;exact aj (v:=f 0) rfl (hC.up 0) (Writes.refl _ _) d
  ·intro w L f hC hLi hLd hLn ⟨a,_⟩;change _=_ at a;refine au.live rfl ?_;obtain⟨ev,ec,ef⟩:=evs f;refine aF (f:=99) (args:= #[.pointer (some ⟨g,0,none⟩)]) (w:=w) (by go_simp) (mivar_any b B g _ w hC.1 hl (by have:=cst_le [(1,1),(5,1),(11,5)] L;simp at this;omega)) ?_;rintro e w1 ⟨⟨s,he,hs⟩,hM,hW⟩;exact⟨_,he,hC.call 1 (by simp[cst,hLi];omega) hM hW,hW,⟨s,rfl,hs⟩⟩
  ·intro w L f hC hLi hLd hLn ⟨d72,_⟩;refine au.live rfl ?_;obtain⟨s0,e0,h0⟩:=d72;obtain⟨ev,ec,ef⟩:=evs f;refine aj (v:= .string (s0++(⟨#[32]⟩:ByteArray))) ?_ (hC.up 2) (Writes.refl _ _) ⟨_,rfl,by simp only[ByteArray.size_append];exact Nat.add_le_add h0 (by decide)⟩;go_simp;omega
  ·intro w L f hC hLi hLd hLn hF;refine au.live rfl ?_;have hbn:=aA w (.cells #[.string ⟨#[60]⟩,.string ⟨#[60,61]⟩,.string ⟨#[62]⟩,.string ⟨#[62,61]⟩,.string ⟨#[61,61]⟩,.string ⟨#[33,61]⟩] 9);have hlt:=hC.1.lt;obtain⟨ev,ec,ef⟩:=evs f;refine aj (w':=w.alloc (.cells #[.string ⟨#[60]⟩,.string ⟨#[60,61]⟩,.string ⟨#[62]⟩,.string ⟨#[62,61]⟩,.string ⟨#[61,61]⟩,.string ⟨#[33,61]⟩] 9)) (v:= .slice (some ⟨w.heap.size,0,none⟩) 6 6) (by go_simp) ((hC.up 3).below hbn) (Writes.of_below hbn _) ⟨w.heap.size,rfl,Holds.new w _ _,by omega⟩
  ·intro w L f hC hLi hLd hLn ⟨d,_⟩;refine au.live rfl ?_;exact aj (v:=f 0) rfl (hC.up 4) (Writes.refl _ _) d
  ·intro w L f hC hLi hLd hLn ⟨a,_⟩;change _=_ at a;refine au.live rfl ?_;obtain⟨ev,ec,ef⟩:=evs f;refine aF (f:=97) (args:= #[.pointer (some ⟨g,0,none⟩),.int .i64 6]) (w:=w) (by go_simp) (mnext_any b B g _ w hC.1 hl (by have:=cst_le [(1,1),(5,1),(11,5)] L;simp at this;omega) 6 (by decide) (by decide)) ?_;rintro e w1 ⟨⟨r,he,hr⟩,hM,hW⟩;exact⟨_,he,hC.call 5 (by simp[cst,hLi];omega) hM hW,hW,⟨r,rfl,hr⟩⟩
  ·intro w L f hC hLi hLd hLn ⟨d74,d76,_⟩;refine au.live rfl ?_;obtain⟨q,ea,hH,hq⟩:=d74;obtain⟨r,ei,hr⟩:=d76;obtain⟨ev,ec,ef⟩:=evs f;refine aj (v:= .pointer (some ⟨q,r,none⟩)) ?_ (hC.up 6) (Writes.refl _ _) ⟨q,r,rfl,hH,hr,hq⟩;go_simp;intro hx;omega
  ·intro w L f hC hLi hLd hLn ⟨d77,_⟩;refine au.live rfl ?_;obtain⟨q,r,ea,hH,hr,hq⟩:=d77;obtain⟨s,hs,hsM⟩:=pick_at (l:= [⟨#[60]⟩,⟨#[60,61]⟩,⟨#[62]⟩,⟨#[62,61]⟩,⟨#[61,61]⟩,⟨#[33,61]⟩]) (M:=2) hH hr (by decide);have ql:=hH.lt;obtain⟨ev,ec,ef⟩:=evs f;refine aj (v:= .string s) ?_ (hC.up 7) (Writes.refl _ _) ⟨s,rfl,hsM⟩;go_simp
  ·intro w L f hC hLi hLd hLn ⟨d73,d78,_⟩;refine au.live rfl ?_;obtain⟨s0,e0,h0⟩:=d73;obtain⟨s1,e1,h1⟩:=d78;obtain⟨ev,ec,ef⟩:=evs f;refine aj (v:= .string (s0++s1)) ?_ (hC.up 8) (Writes.refl _ _) ⟨_,rfl,by simp only[ByteArray.size_append];exact Nat.add_le_add h0 h1⟩;go_simp;omega
  ·intro w L f hC hLi hLd hLn ⟨d79,_⟩;refine au.live rfl ?_;obtain⟨s0,e0,h0⟩:=d79;obtain⟨ev,ec,ef⟩:=evs f;refine aj (v:= .string (s0++(⟨#[32]⟩:ByteArray))) ?_ (hC.up 9) (Writes.refl _ _) ⟨_,rfl,by simp only[ByteArray.size_append];exact Nat.add_le_add h0 (by decide)⟩;go_simp;omega
  ·intro w L f hC hLi hLd hLn ⟨d,_⟩;refine au.live rfl ?_;exact aj (v:=f 0) rfl (hC.up 10) (Writes.refl _ _) d
  ·intro w L f hC hLi hLd hLn ⟨a,_⟩;change _=_ at a;refine au.live rfl ?_;obtain⟨ev,ec,ef⟩:=evs f;refine aF (f:=149) (args:= #[.pointer (some ⟨g,0,none⟩),.int .i64 1]) (w:=w) (by go_simp) (msum_any 1 (by decide) b B g _ w hC.1 hl (by have:=cst_le [(1,1),(5,1),(11,5)] L;simp at this;omega)) ?_;rintro e w1 ⟨⟨s,he,hs⟩,hM,hW⟩;exact⟨_,he,hC.call 11 (by simp[cst,hLi];omega) hM hW,hW,⟨s,rfl,hs⟩⟩
  ·intro w L f hC hLi hLd hLn ⟨d80,d82,_⟩;refine au.live rfl ?_;obtain⟨s0,e0,h0⟩:=d80;obtain⟨s1,e1,h1⟩:=d82;obtain⟨ev,ec,ef⟩:=evs f;refine aj (v:= .string (s0++s1)) ?_ (hC.up 12) (Writes.refl _ _) ⟨_,rfl,by simp only[ByteArray.size_append];exact Nat.add_le_add h0 h1⟩;go_simp;omega
  ·intro w L f hC hLi hLd hLn ⟨d,_⟩;refine au.live rfl ?_;exact aj (v:=f 83) rfl (hC.up 13) (Writes.refl _ _) d
 intro x w' hC hV

 obtain⟨s,hs,hsM⟩:=hV 13 _ rfl rfl;simp only[framed,hs];go_wp2_with fail;go_ret;exact⟨⟨s,rfl,by omega⟩,hC.1.more (by have:=cst_le [(1,1),(5,1),(11,5)] fun _=>true;simp at this;omega),hC.2⟩
theorem cd0:CdOk 0:=mcond_step 0 (by decide) fun h=>absurd h (by decide)
theorem cd1:CdOk 1:=mcond_step 1 (by decide) fun _=>cd0
end Go.Proofs.YtpndglghpojjkaaGreat
