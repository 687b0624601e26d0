/-
  The seat's maker: a sum.
-/
import Derived.Test.YtpndglghpojjkaaGreatVNuB
import Derived.Deep.CutBlock
set_option maxRecDepth 1000000
set_option maxHeartbeats 8000000

namespace Go.Proofs.YtpndglghpojjkaaGreat
open Go.RowKit Go.Deep

def cst (cs:List (Nat×Nat)) (L:Nat→Bool):Nat:=(cs.map fun p=>if L p.1=true then p.2 else 0).sum
theorem cst_le:∀(cs:List (Nat×Nat)) (L:Nat→Bool),cst cs L≤(cs.map Prod.snd).sum
 | [],_=>Nat.le_refl _
 |p::cs,L=>by have h:=cst_le cs L;unfold cst at h⊢;simp only[List.map_cons,List.sum_cons];split<;>omega
theorem cst_up (i:Nat):∀(cs:List (Nat×Nat)) (L:Nat→Bool),cst cs L≤cst cs fun k=>k==i||L k
 | [],_=>Nat.le_refl _
 |p::cs,L=>by
  have h:=cst_up i cs L;unfold cst at h⊢;simp only[List.map_cons,List.sum_cons]
  have h2:(if L p.1=true then p.2 else 0)≤(if (p.1==i||L p.1)=true then p.2 else 0):=by by_cases hp:L p.1=true<;>simp[hp]
  exact Nat.add_le_add h2 h
theorem bs_lit (l:Array UInt8):(⟨l⟩:ByteArray).size=l.size:=rfl
theorem cst_none {L:Nat→Bool}:∀{cs:List (Nat×Nat)},(cs.all fun p=> !L p.1)=true→cst cs L=0
 | [],_=>rfl
 |p::cs,h=>by simp only[List.all_cons,Bool.and_eq_true,Bool.not_eq_true']at h;have h2:=cst_none h.2;unfold cst at h2⊢;simp[h.1,h2]
def MkU (b:List UInt8) (B g K:Nat) (cs:List (Nat×Nat)) (w0:World) (L:Nat→Bool) (w:World):Prop:=Mk b B g (K+cst cs L) w∧Writes [some g] w0 w
section
variable {b:List UInt8} {B g K:Nat} {cs:List (Nat×Nat)} {w0 w w':World} {L:Nat→Bool}
theorem MkU.up (h:MkU b B g K cs w0 L w) (i:Nat):MkU b B g K cs w0 (fun k=>k==i||L k) w:=⟨h.1.more (by have:=cst_up i cs L;omega),h.2⟩
theorem MkU.below (h:MkU b B g K cs w0 L w) (hb:Below w.heap.size w w'):MkU b B g K cs w0 L w':=⟨h.1.below hb,h.2.trans (Writes.of_below hb _)⟩
theorem MkU.call {c:Nat} (h:MkU b B g K cs w0 L w) (i:Nat) (hc:cst cs L+c≤cst cs fun k=>k==i||L k) (hM:Mk b B g (K+cst cs L+c) w') (hW:Writes [some g] w w'):MkU b B g K cs w0 (fun k=>k==i||L k) w':=
 ⟨hM.more (by omega),h.2.trans hW⟩
theorem MkU.start {wd:World} (hb:Below w.heap.size w wd) (hM:Mk b B g K w) (hW:Writes [some g] w0 w) (h0:(cs.all fun p=> !L p.1)=true):MkU b B g K cs w0 L wd:=
 ⟨by rw[cst_none h0];exact hM.below hb,hW.trans (Writes.of_below hb _)⟩
end
set_option maxHeartbeats 4000000 in
theorem msum_any:∀(d:Nat),d≤2→∀(b:List UInt8) (B g k:Nat) (w0:World),Mk b B g k w0→b.length≤100000→k≤880000+50*(2-d)→
  Calls Tryz.prog 149 #[.pointer (some ⟨g,0,none⟩),.int .i64 d] w0 (MkOut b B g (k+(3*d+2)) (19+6*d) w0)
 |0,_,b,B,g,k,w0,h,hl,hk=>by
  have hM0:=Za h;have hW0:=Za (Writes.refl [some g] w0);clear h;go_enter Tryz.func149,Tryz.ntmps149;go_wp2_with fail;refine(mnext_any b B g _ w0 hM0.out hl (by omega) 12 (by decide) (by decide)).mono ?_;rintro e w1 ⟨⟨r1,rfl,hr1⟩,hM1,hW1⟩;replace hW1:=Za (hW0.out.trans hW1);replace hM1:=Za hM1;by_cases h3:r1<3
  ·have c3:(r1:Int)<3:=by omega
   go_wp2_with fail;refine(mnum_any b B g _ w1 hM1.out hl (by omega)).mono ?_;rintro e w2 ⟨⟨s2,rfl,hs2⟩,hM2,hW2⟩;replace hW2:=Za (hW1.out.trans hW2);replace hM2:=Za hM2;go_wp2_with fail;go_ret;exact⟨⟨_,rfl,by first|omega| (simp only[ByteArray.size_append,bs_lit,List.size_toArray,List.length_cons,List.length_nil];omega)⟩,hM2.out.more (by omega),hW2.out⟩
  have c3:¬(r1:Int)<3:=by omega
  by_cases h7:r1<7
  ·have c7:(r1:Int)<7:=by omega
   go_wp2_with fail;refine(mnum_any b B g _ w1 hM1.out hl (by omega)).mono ?_;rintro e w2 ⟨⟨s2,rfl,hs2⟩,hM2,hW2⟩;replace hW2:=Za (hW1.out.trans hW2);replace hM2:=Za hM2;go_wp2_with fail;go_ret;exact⟨⟨_,rfl,by first|omega| (simp only[ByteArray.size_append,bs_lit,List.size_toArray,List.length_cons,List.length_nil];omega)⟩,hM2.out.more (by omega),hW2.out⟩
  have c7:¬(r1:Int)<7:=by omega
  have c6:¬(r1:Int)<6:=by omega
  go_wp2_with fail;refine(mivar_any b B g _ w1 hM1.out hl (by omega)).mono ?_;rintro e w2 ⟨⟨s2,rfl,hs2⟩,hM2,hW2⟩;replace hW2:=Za (hW1.out.trans hW2);replace hM2:=Za hM2;go_wp2_with fail;go_ret;exact⟨⟨_,rfl,by first|omega| (simp only[ByteArray.size_append,bs_lit,List.size_toArray,List.length_cons,List.length_nil];omega)⟩,hM2.out.more (by omega),hW2.out⟩
 |d+1,hd,b,B,g,k,w0,h,hl,hk=>by
  have ih:=fun b B g k w h hl hk=>msum_any d (by omega) b B g k w h hl hk;have hM0:=Za h;have hW0:=Za (Writes.refl [some g] w0);clear h;go_enter Tryz.func149,Tryz.ntmps149;go_wp2_with fail;refine(mnext_any b B g _ w0 hM0.out hl (by omega) 12 (by decide) (by decide)).mono ?_;rintro e w1 ⟨⟨r1,rfl,hr1⟩,hM1,hW1⟩;replace hW1:=Za (hW0.out.trans hW1);replace hM1:=Za hM1
  have cd:¬((d:Int)+1≤0):=by omega
  by_cases h3:r1<3
  ·have c3:(r1:Int)<3:=by omega
   go_wp2_with fail;refine(mnum_any b B g _ w1 hM1.out hl (by omega)).mono ?_;rintro e w2 ⟨⟨s2,rfl,hs2⟩,hM2,hW2⟩;replace hW2:=Za (hW1.out.trans hW2);replace hM2:=Za hM2;go_wp2_with fail;go_ret;exact⟨⟨_,rfl,by first|omega| (simp only[ByteArray.size_append,bs_lit,List.size_toArray,List.length_cons,List.length_nil];omega)⟩,hM2.out.more (by omega),hW2.out⟩
  have c3:¬(r1:Int)<3:=by omega
  by_cases h6:r1<6
  ·have c6:(r1:Int)<6:=by omega
   go_wp2_with fail;refine(mivar_any b B g _ w1 hM1.out hl (by omega)).mono ?_;rintro e w2 ⟨⟨s2,rfl,hs2⟩,hM2,hW2⟩;replace hW2:=Za (hW1.out.trans hW2);replace hM2:=Za hM2;go_wp2_with fail;go_ret;exact⟨⟨_,rfl,by first|omega| (simp only[ByteArray.size_append,bs_lit,List.size_toArray,List.length_cons,List.length_nil];omega)⟩,hM2.out.more (by omega),hW2.out⟩
  have c6:¬(r1:Int)<6:=by omega
  by_cases h66:r1=6
  ·subst h66;go_wp2_with fail;refine(mivar_any b B g _ w1 hM1.out hl (by omega)).mono ?_;rintro e w2 ⟨⟨s2,rfl,hs2⟩,hM2,hW2⟩;replace hW2:=Za (hW1.out.trans hW2);replace hM2:=Za hM2;go_wp2_with fail;go_ret;exact⟨⟨_,rfl,by first|omega| (simp only[ByteArray.size_append,bs_lit,List.size_toArray,List.length_cons,List.length_nil];omega)⟩,hM2.out.more (by omega),hW2.out⟩
  have c66:((r1:Int)==6)=false:=by simp;omega
  by_cases h11:r1=11
  ·subst h11;go_wp2_with fail;refine(ih b B g _ w1 hM1.out hl (by omega)).mono ?_;rintro e w2 ⟨⟨s2,rfl,hs2⟩,hM2,hW2⟩;replace hW2:=Za (hW1.out.trans hW2);replace hM2:=Za hM2;go_wp2_with fail;refine(mivar_any b B g _ w2 hM2.out hl (by omega)).mono ?_;rintro e w3 ⟨⟨s3,rfl,hs3⟩,hM3,hW3⟩;replace hW3:=Za (hW2.out.trans hW3);replace hM3:=Za hM3;go_wp2_with fail;go_ret
   exact⟨⟨_,rfl,by first|omega| (simp only[ByteArray.size_append,bs_lit,List.size_toArray,List.length_cons,List.length_nil];omega)⟩,hM3.out.more (by omega),hW3.out⟩
  have c11:((r1:Int)==11)=false:=by simp;omega
  obtain⟨K,hK⟩:∃K,K=k+1:=⟨_,rfl⟩;have hMr:=Za (hM1.out.more (Nat.le_of_eq hK.symm));have hWr:=hW1;clear hM1 hW1;go_upto_region 2 with(fail)
  refine aC ((eqv (.pointer (some ⟨g,0,none⟩)))::(eqv (.int .i64 (d+1:Nat)))::(eqv (.int .i64 d))::(fun L w v=>∃s:ByteArray,v= .string s∧s.size≤19+6*d)::(fun L w v=>∃s:ByteArray,v= .string s∧s.size≤19+6*d+1)::(fun L w v=>∃q,v= .slice (some ⟨q,0,none⟩) 5 5∧Holds w q 9 #[.string ⟨#[43]⟩,.string ⟨#[45]⟩,.string ⟨#[42]⟩,.string ⟨#[47]⟩,.string ⟨#[37]⟩]∧q≠g)::(eqv (.pointer (some ⟨g,0,none⟩)))::(fun L w v=>∃r:Nat,v= .int .i64 r∧r<5)::(fun L w v=>∃q r,v= .pointer (some ⟨q,r,none⟩)∧Holds w q 9 #[.string ⟨#[43]⟩,.string ⟨#[45]⟩,.string ⟨#[42]⟩,.string ⟨#[47]⟩,.string ⟨#[37]⟩]∧r<5∧q≠g)::(fun L w v=>∃s:ByteArray,v= .string s∧s.size≤1)::(fun L w v=>∃s:ByteArray,v= .string s∧s.size≤19+6*d+1+1)::(fun L w v=>∃s:ByteArray,v= .string s∧s.size≤19+6*d+1+1+1)::(eqv (.pointer (some ⟨g,0,none⟩)))::(fun L w v=>∃s:ByteArray,v= .string s∧s.size≤1)::(fun L w v=>∃s:ByteArray,v= .string s∧s.size≤19+6*d+1+1+1+1)::(fun L w v=>∃s:ByteArray,v= .string s∧s.size≤19+6*d+1+1+1+1)::[])
   ((rn1 0)::(rn1 1)::(rd1 9 1)::⟨[(8,some 0),(10,some 2)],0,[]⟩::(rd1 11 3)::⟨[],0,[]⟩::(rn1 0)::(rd1 14 6)::⟨[(13,some 5),(15,some 7)],0,[]⟩::(rd1 16 8)::⟨[(12,some 4),(17,some 9)],0,[]⟩::(rd1 18 10)::(rn1 0)::(rd1 20 12)::⟨[(19,some 11),(21,some 13)],0,[]⟩::(rd1 22 14)::[])
   (no::no::no::no::so 15::no::no::no::so 0::so 1::so 2::so 3::so 4::so 5::so 6::so 7::so 8::so 9::so 10::so 11::so 12::so 13::so 14::[])
   (fun L w'=>MkU b B g K [(3,3*d+2),(7,1),(13,1)] w0 L w') (fun _ w w'=>Writes [some g] w w') ?mixK2sum ?okK2sum ?tabK2sum ?frK2sum ?inK2sum ?keptK2sum ?startK2sum ?eachK2sum ?finK2sum
  case mixK2sum|okK2sum|tabK2sum|frK2sum=>kernel_rfl
  case inK2sum=>rfl
  case keptK2sum=>exact⟨fun _ _ _ _ _ _ _ _ _ _ _ h=>h,fun _ _ _ _ _ _ _ _ _ _ _ h=>h,fun _ _ _ _ _ _ _ _ _ _ _ h=>h,fun _ _ _ _ _ _ _ _ _ _ _ h=>h,fun _ _ _ _ _ _ _ _ _ _ _ h=>h,fun i hne hr L w w' v hLi hC hC' hG ⟨q,e,hH,hq⟩=>⟨q,e,hG.holds hH (by simpa using hq),hq⟩,fun _ _ _ _ _ _ _ _ _ _ _ h=>h,fun _ _ _ _ _ _ _ _ _ _ _ h=>h,fun i hne hr L w w' v hLi hC hC' hG ⟨q,r,e,hH,hr,hq⟩=>⟨q,r,e,hG.holds hH (by simpa using hq),hr,hq⟩,fun _ _ _ _ _ _ _ _ _ _ _ h=>h,fun _ _ _ _ _ _ _ _ _ _ _ h=>h,fun _ _ _ _ _ _ _ _ _ _ _ h=>h,fun _ _ _ _ _ _ _ _ _ _ _ h=>h,fun _ _ _ _ _ _ _ _ _ _ _ h=>h,fun _ _ _ _ _ _ _ _ _ _ _ h=>h,fun _ _ _ _ _ _ _ _ _ _ _ h=>h,trivial⟩
  case startK2sum=>exact MkU.start (Below.refl _ _).drew hMr.out hWr.out rfl
  case eachK2sum=>
   repeat' first|exact trivial|refine And.intro ?_ ?_
   ·intro w L f hC hLi hLd hLn ⟨d,_⟩;refine au.live rfl ?_;exact aj (v:=f 0) rfl (hC.up 0) (Writes.refl _ _) d
   ·intro w L f hC hLi hLd hLn ⟨d,_⟩;refine au.live rfl ?_;exact aj (v:=f 1) rfl (hC.up 1) (Writes.refl _ _) d
   ·intro w L f hC hLi hLd hLn ⟨a,_⟩;change _=_ at a;refine au.live rfl ?_;obtain⟨ev,ec,ef⟩:=evs f;refine aj ?_ (hC.up 2) (Writes.refl _ _) rfl;go_simp;exact IntWalk.i64_in _ (by omega)
   ·intro w L f hC hLi hLd hLn ⟨a,p,_⟩;change _=_ at a p;refine au.live rfl ?_;obtain⟨ev,ec,ef⟩:=evs f;refine aF (f:=149) (args:= #[.pointer (some ⟨g,0,none⟩),.int .i64 d]) (w:=w) (by go_simp) (ih b B g _ w hC.1 hl (by have:=cst_le [(3,3*d+2),(7,1),(13,1)] L;simp at this;omega)) ?_;rintro e w1 ⟨⟨s,he,hs⟩,hM,hW⟩;exact⟨_,he,hC.call 3 (by simp[cst,hLi];omega) hM hW,hW,⟨s,rfl,hs⟩⟩
   ·intro w L f hC hLi hLd hLn ⟨d11,_⟩;refine au.live rfl ?_;obtain⟨s0,e0,h0⟩:=d11;obtain⟨ev,ec,ef⟩:=evs f;refine aj (v:= .string (s0++(⟨#[32]⟩:ByteArray))) ?_ (hC.up 4) (Writes.refl _ _) ⟨_,rfl,by simp only[ByteArray.size_append];exact Nat.add_le_add h0 (by decide)⟩;go_simp;omega
   ·intro w L f hC hLi hLd hLn hF;refine au.live rfl ?_;have hbn:=aA w (.cells #[.string ⟨#[43]⟩,.string ⟨#[45]⟩,.string ⟨#[42]⟩,.string ⟨#[47]⟩,.string ⟨#[37]⟩] 9);have hlt:=hC.1.lt;obtain⟨ev,ec,ef⟩:=evs f;refine aj (w':=w.alloc (.cells #[.string ⟨#[43]⟩,.string ⟨#[45]⟩,.string ⟨#[42]⟩,.string ⟨#[47]⟩,.string ⟨#[37]⟩] 9)) (v:= .slice (some ⟨w.heap.size,0,none⟩) 5 5) (by go_simp) ((hC.up 5).below hbn) (Writes.of_below hbn _) ⟨w.heap.size,rfl,Holds.new w _ _,by omega⟩
   ·intro w L f hC hLi hLd hLn ⟨d,_⟩;refine au.live rfl ?_;exact aj (v:=f 0) rfl (hC.up 6) (Writes.refl _ _) d
   ·intro w L f hC hLi hLd hLn ⟨a,_⟩;change _=_ at a;refine au.live rfl ?_;obtain⟨ev,ec,ef⟩:=evs f;refine aF (f:=97) (args:= #[.pointer (some ⟨g,0,none⟩),.int .i64 5]) (w:=w) (by go_simp) (mnext_any b B g _ w hC.1 hl (by have:=cst_le [(3,3*d+2),(7,1),(13,1)] L;simp at this;omega) 5 (by decide) (by decide)) ?_;rintro e w1 ⟨⟨r,he,hr⟩,hM,hW⟩;exact⟨_,he,hC.call 7 (by simp[cst,hLi];omega) hM hW,hW,⟨r,rfl,hr⟩⟩
   ·intro w L f hC hLi hLd hLn ⟨d13,d15,_⟩;refine au.live rfl ?_;obtain⟨q,ea,hH,hq⟩:=d13;obtain⟨r,ei,hr⟩:=d15;obtain⟨ev,ec,ef⟩:=evs f;refine aj (v:= .pointer (some ⟨q,r,none⟩)) ?_ (hC.up 8) (Writes.refl _ _) ⟨q,r,rfl,hH,hr,hq⟩;go_simp;intro hx;omega
   ·intro w L f hC hLi hLd hLn ⟨d16,_⟩;refine au.live rfl ?_;obtain⟨q,r,ea,hH,hr,hq⟩:=d16;obtain⟨s,hs,hsM⟩:=pick_at (l:= [⟨#[43]⟩,⟨#[45]⟩,⟨#[42]⟩,⟨#[47]⟩,⟨#[37]⟩]) (M:=1) hH hr (by decide);have ql:=hH.lt;obtain⟨ev,ec,ef⟩:=evs f;refine aj (v:= .string s) ?_ (hC.up 9) (Writes.refl _ _) ⟨s,rfl,hsM⟩;go_simp
   ·intro w L f hC hLi hLd hLn ⟨d12,d17,_⟩;refine au.live rfl ?_;obtain⟨s0,e0,h0⟩:=d12;obtain⟨s1,e1,h1⟩:=d17;obtain⟨ev,ec,ef⟩:=evs f;refine aj (v:= .string (s0++s1)) ?_ (hC.up 10) (Writes.refl _ _) ⟨_,rfl,by simp only[ByteArray.size_append];exact Nat.add_le_add h0 h1⟩;go_simp;omega
   ·intro w L f hC hLi hLd hLn ⟨d18,_⟩;refine au.live rfl ?_;obtain⟨s0,e0,h0⟩:=d18;obtain⟨ev,ec,ef⟩:=evs f;refine aj (v:= .string (s0++(⟨#[32]⟩:ByteArray))) ?_ (hC.up 11) (Writes.refl _ _) ⟨_,rfl,by simp only[ByteArray.size_append];exact Nat.add_le_add h0 (by decide)⟩;go_simp;omega
   ·intro w L f hC hLi hLd hLn ⟨d,_⟩;refine au.live rfl ?_;exact aj (v:=f 0) rfl (hC.up 12) (Writes.refl _ _) d
   ·intro w L f hC hLi hLd hLn ⟨a,_⟩;change _=_ at a;refine au.live rfl ?_;obtain⟨ev,ec,ef⟩:=evs f;refine aF (f:=99) (args:= #[.pointer (some ⟨g,0,none⟩)]) (w:=w) (by go_simp) (mivar_any b B g _ w hC.1 hl (by have:=cst_le [(3,3*d+2),(7,1),(13,1)] L;simp at this;omega)) ?_;rintro e w1 ⟨⟨s,he,hs⟩,hM,hW⟩;exact⟨_,he,hC.call 13 (by simp[cst,hLi];omega) hM hW,hW,⟨s,rfl,hs⟩⟩
   ·intro w L f hC hLi hLd hLn ⟨d19,d21,_⟩;refine au.live rfl ?_;obtain⟨s0,e0,h0⟩:=d19;obtain⟨s1,e1,h1⟩:=d21;obtain⟨ev,ec,ef⟩:=evs f;refine aj (v:= .string (s0++s1)) ?_ (hC.up 14) (Writes.refl _ _) ⟨_,rfl,by simp only[ByteArray.size_append];exact Nat.add_le_add h0 h1⟩;go_simp;omega
   ·intro w L f hC hLi hLd hLn ⟨d,_⟩;refine au.live rfl ?_;exact aj (v:=f 22) rfl (hC.up 15) (Writes.refl _ _) d
  intro x w' hC hV

  obtain⟨s,hs,hsM⟩:=hV 15 _ rfl rfl;simp only[framed,hs];go_wp2_with fail;go_ret;exact⟨⟨s,rfl,by omega⟩,hC.1.more (by have:=cst_le [(3,3*d+2),(7,1),(13,1)] fun _=>true;simp at this;omega),hC.2⟩
end Go.Proofs.YtpndglghpojjkaaGreat
