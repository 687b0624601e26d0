/-
  The seat's maker: arguments, a statement, a block.
-/
import Derived.Test.YtpndglghpojjkaaGreatVNuD
set_option maxRecDepth 1000000
set_option maxHeartbeats 8000000

namespace Go.Proofs.YtpndglghpojjkaaGreat
open Go.RowKit Go.Deep

set_option maxHeartbeats 4000000 in
theorem margs_any (b:List UInt8) (B g k:Nat) (w0:World) (h:Mk b B g k w0) (hl:b.length≤100000) (hk:k≤870000) (c:Nat) (hc4:c≤4) (kk:Nat) (hkk:kk<4):
  Calls Tryz.prog 151 #[.pointer (some ⟨g,0,none⟩),.int .i64 c,.int .i64 kk] w0 (MkOut b B g (k+7) 46 w0):=by
 rcases(show c=0∨c=1∨c=2∨c=3∨c=4 by omega)with hc|hc|hc|hc|hc
 ·subst hc;have hM0:=Za h;have hW0:=Za (Writes.refl [some g] w0);clear h;go_enter Tryz.func151,Tryz.ntmps151;go_wp2_with fail;refine(msum_any 1 (by decide) b B g _ w0 hM0.out hl (by omega)).mono ?_;rintro e w1 ⟨⟨s1,rfl,hs1⟩,hM1,hW1⟩;replace hW1:=Za (hW0.out.trans hW1);replace hM1:=Za hM1;go_wp2_with fail;go_ret
  exact⟨⟨_,rfl,by first|omega| (simp only[ByteArray.size_append,bs_lit,List.size_toArray,List.length_cons,List.length_nil];omega)⟩,hM1.out.more (by omega),hW1.out⟩
 ·subst hc;have hM0:=Za h;have hW0:=Za (Writes.refl [some g] w0);clear h;go_enter Tryz.func151,Tryz.ntmps151;go_wp2_with fail;refine(msum_any 0 (by decide) b B g _ w0 hM0.out hl (by omega)).mono ?_;rintro e w1 ⟨⟨s1,rfl,hs1⟩,hM1,hW1⟩;replace hW1:=Za (hW0.out.trans hW1);replace hM1:=Za hM1;go_wp2_with fail;refine(msum_any 1 (by decide) b B g _ w1 hM1.out hl (by omega)).mono ?_
  rintro e w2 ⟨⟨s2,rfl,hs2⟩,hM2,hW2⟩;replace hW2:=Za (hW1.out.trans hW2);replace hM2:=Za hM2;go_wp2_with fail;go_ret;exact⟨⟨_,rfl,by first|omega| (simp only[ByteArray.size_append,bs_lit,List.size_toArray,List.length_cons,List.length_nil];omega)⟩,hM2.out.more (by omega),hW2.out⟩
 ·subst hc;have hM0:=Za h;have hW0:=Za (Writes.refl [some g] w0);clear h;go_enter Tryz.func151,Tryz.ntmps151;go_wp2_with fail;refine(mpvar_any b B g _ w0 hM0.out hl (by omega) kk hkk).mono ?_;rintro e w1 ⟨⟨s1,rfl,hs1⟩,hM1,hW1⟩;replace hW1:=Za (hW0.out.trans hW1);replace hM1:=Za hM1;go_wp2_with fail;go_ret
  exact⟨⟨_,rfl,by first|omega| (simp only[ByteArray.size_append,bs_lit,List.size_toArray,List.length_cons,List.length_nil];omega)⟩,hM1.out.more (by omega),hW1.out⟩
 ·subst hc;have hM0:=Za h;have hW0:=Za (Writes.refl [some g] w0);clear h;go_enter Tryz.func151,Tryz.ntmps151;go_wp2_with fail;refine(msum_any 0 (by decide) b B g _ w0 hM0.out hl (by omega)).mono ?_;rintro e w1 ⟨⟨s1,rfl,hs1⟩,hM1,hW1⟩;replace hW1:=Za (hW0.out.trans hW1);replace hM1:=Za hM1;go_wp2_with fail;refine(mpvar_any b B g _ w1 hM1.out hl (by omega) kk hkk).mono ?_
  rintro e w2 ⟨⟨s2,rfl,hs2⟩,hM2,hW2⟩;replace hW2:=Za (hW1.out.trans hW2);replace hM2:=Za hM2;go_wp2_with fail;go_ret;exact⟨⟨_,rfl,by first|omega| (simp only[ByteArray.size_append,bs_lit,List.size_toArray,List.length_cons,List.length_nil];omega)⟩,hM2.out.more (by omega),hW2.out⟩
 ·subst hc;have hM0:=Za h;have hW0:=Za (Writes.refl [some g] w0);clear h;go_enter Tryz.func151,Tryz.ntmps151;go_wp2_with fail;refine(msum_any 1 (by decide) b B g _ w0 hM0.out hl (by omega)).mono ?_;rintro e w1 ⟨⟨s1,rfl,hs1⟩,hM1,hW1⟩;replace hW1:=Za (hW0.out.trans hW1);replace hM1:=Za hM1;go_wp2_with fail;go_ret
  exact⟨⟨_,rfl,by first|omega| (simp only[ByteArray.size_append,bs_lit,List.size_toArray,List.length_cons,List.length_nil];omega)⟩,hM1.out.more (by omega),hW1.out⟩
set_option maxHeartbeats 4000000 in
theorem mname_any (w:World) (k:Nat):Calls Tryz.prog 49 #[.int .i64 k] w fun e w'=>(∃s:ByteArray,e= .returned (.string s)∧s.size≤1)∧Below w.heap.size w w':=by
 have hbn:=aA w (.cells #[.string ⟨#[102]⟩,.string ⟨#[103]⟩,.string ⟨#[104]⟩,.string ⟨#[107]⟩] 9);obtain⟨s,hs,hsM⟩:=pick_at (l:= [⟨#[102]⟩,⟨#[103]⟩,⟨#[104]⟩,⟨#[107]⟩]) (M:=1) (r:=k%4) (Holds.new w 9 #[.string ⟨#[102]⟩,.string ⟨#[103]⟩,.string ⟨#[104]⟩,.string ⟨#[107]⟩]) (Nat.mod_lt _ (by decide)) (by decide);have hE:=Za (And.intro hsM hbn)
 have ql:w.heap.size<(w.alloc (.cells #[.string ⟨#[102]⟩,.string ⟨#[103]⟩,.string ⟨#[104]⟩,.string ⟨#[107]⟩] 9)).heap.size:=(Holds.new w _ _).lt;clear hbn hsM;go_enter Tryz.func49,Tryz.ntmps49;go_wp2_with fail;go_ret;exact⟨⟨s,rfl,hE.out.1⟩,hE.out.2⟩
set_option maxHeartbeats 4000000 in
theorem mhead_any (w:World) (k:Nat):Calls Tryz.prog 96 #[.int .i64 k] w fun e w'=>(∃s:ByteArray,e= .returned (.string s)∧s.size≤11)∧Below w.heap.size w w':=by
 have hbn:=aA w (.cells #[.string ⟨#[102,110,32,102,40,120,41]⟩,.string ⟨#[102,110,32,103,40,120,44,32,121,41]⟩,.string ⟨#[102,110,32,104,40,42,112,41]⟩,.string ⟨#[102,110,32,107,40,120,44,32,42,112,41]⟩] 9)
 obtain⟨s,hs,hsM⟩:=pick_at (l:= [⟨#[102,110,32,102,40,120,41]⟩,⟨#[102,110,32,103,40,120,44,32,121,41]⟩,⟨#[102,110,32,104,40,42,112,41]⟩,⟨#[102,110,32,107,40,120,44,32,42,112,41]⟩]) (M:=11) (r:=k%4) (Holds.new w 9 #[.string ⟨#[102,110,32,102,40,120,41]⟩,.string ⟨#[102,110,32,103,40,120,44,32,121,41]⟩,.string ⟨#[102,110,32,104,40,42,112,41]⟩,.string ⟨#[102,110,32,107,40,120,44,32,42,112,41]⟩]) (Nat.mod_lt _ (by decide)) (by decide)
 have hE:=Za (And.intro hsM hbn);have ql:w.heap.size<(w.alloc (.cells #[.string ⟨#[102,110,32,102,40,120,41]⟩,.string ⟨#[102,110,32,103,40,120,44,32,121,41]⟩,.string ⟨#[102,110,32,104,40,42,112,41]⟩,.string ⟨#[102,110,32,107,40,120,44,32,42,112,41]⟩] 9)).heap.size:=(Holds.new w _ _).lt;clear hbn hsM;go_enter Tryz.func96,Tryz.ntmps96;go_wp2_with fail
 go_ret;exact⟨⟨s,rfl,hE.out.1⟩,hE.out.2⟩
end Go.Proofs.YtpndglghpojjkaaGreat
