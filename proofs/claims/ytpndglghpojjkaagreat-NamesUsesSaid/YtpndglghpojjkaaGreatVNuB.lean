/-
  The seat's maker: a number, a name of an integer, of a pointer.
-/
import Derived.Test.YtpndglghpojjkaaGreatVNuA
set_option maxRecDepth 1000000
set_option maxHeartbeats 8000000

namespace Go.Proofs.YtpndglghpojjkaaGreat
open Go.RowKit Go.Deep

def MkOut (b:List UInt8) (B g k M:Nat) (w:World) (e:Ending) (w':World):Prop:=(∃s:ByteArray,e= .returned (.string s)∧s.size≤M)∧Mk b B g k w'∧Writes [some g] w w'
theorem MkOut.more {b:List UInt8} {B g k k' M M':Nat} {w w':World} {e:Ending} (h:MkOut b B g k M w e w') (hk:k≤k') (hM:M≤M'):MkOut b B g k' M' w e w':=by
 obtain⟨⟨s,e,hs⟩,h1,h2⟩:=h;exact⟨⟨s,e,Nat.le_trans hs hM⟩,h1.more hk,h2⟩
theorem Mk.lt {b:List UInt8} {B g k:Nat} {w:World} (h:Mk b B g k w):g<w.heap.size:=by
 obtain⟨A,c,i,m,hS,-⟩:=h;exact hS.h.lt
theorem pick_at {w:World} {g:Nat} {T:TypeId} {l:List ByteArray} (h:Holds w g T (l.map Value.string).toArray) {r M:Nat} (hr:r<l.length) (hM:∀s∈l,s.size≤M):∃s:ByteArray,w.cell? ⟨g,r,none⟩=some (.string s)∧s.size≤M:=by
 refine⟨l[r],?_,hM _ (List.getElem_mem hr)⟩;rw[h.cell r];simp[hr]
set_option maxHeartbeats 4000000 in
theorem mnum_any (b:List UInt8) (B g k:Nat) (w:World) (h:Mk b B g k w) (hl:b.length≤100000) (hk:k≤900000):
  Calls Tryz.prog 148 #[.pointer (some ⟨g,0,none⟩)] w (MkOut b B g (k+1) 19 w):=by
 have hbn:=aA w (.cells #[.string ⟨#[48]⟩,.string ⟨#[49]⟩,.string ⟨#[50]⟩,.string ⟨#[51]⟩,.string ⟨#[52]⟩,.string ⟨#[49,48]⟩,.string ⟨#[57,50,50,51,51,55,50,48,51,54,56,53,52,55,55,53,56,48,55]⟩,.string ⟨#[55]⟩] 9)
 have hH:=Holds.new w 9 #[.string ⟨#[48]⟩,.string ⟨#[49]⟩,.string ⟨#[50]⟩,.string ⟨#[51]⟩,.string ⟨#[52]⟩,.string ⟨#[49,48]⟩,.string ⟨#[57,50,50,51,51,55,50,48,51,54,56,53,52,55,55,53,56,48,55]⟩,.string ⟨#[55]⟩]
 obtain⟨w1,hw1⟩:∃z,z=w.alloc (.cells #[.string ⟨#[48]⟩,.string ⟨#[49]⟩,.string ⟨#[50]⟩,.string ⟨#[51]⟩,.string ⟨#[52]⟩,.string ⟨#[49,48]⟩,.string ⟨#[57,50,50,51,51,55,50,48,51,54,56,53,52,55,55,53,56,48,55]⟩,.string ⟨#[55]⟩] 9):=⟨_,rfl⟩;obtain⟨g1,hg1⟩:∃z,z=w.heap.size:=⟨_,rfl⟩;rw[←hw1]at hbn hH
 have hne:g1≠g:=by have:=h.lt;omega
 have cN:=Za (mnext_any b B g k w1 (h.below hbn) hl (by omega) 8 (by decide) (by decide));have hW1:=Za (Writes.of_below hbn [some g]);rw[←hg1]at hH;have hH':=Za hH;have hfo:=Za hw1.symm;have hgo:=Za hg1.symm;clear hbn hH hw1 hg1 h;go_enter Tryz.func148,Tryz.ntmps148;go_wp2_with fail;rw[hfo.out,hgo.out];clear hfo hgo;refine cN.out.mono ?_;clear cN
 rintro e w2 ⟨⟨r,rfl,hr⟩,hM2,hW2⟩;have hH2:=hW2.holds hH'.out (by simpa using hne);obtain⟨s,hs,hsM⟩:=pick_at (l:= [⟨#[48]⟩,⟨#[49]⟩,⟨#[50]⟩,⟨#[51]⟩,⟨#[52]⟩,⟨#[49,48]⟩,⟨#[57,50,50,51,51,55,50,48,51,54,56,53,52,55,55,53,56,48,55]⟩,⟨#[55]⟩]) (M:=19) hH2 hr (by decide);have ql:=hH2.lt;have hE:=Za (And.intro hM2 (hW1.out.trans hW2));have hsM':=Za hsM
 clear hH2 hM2 hW2 hW1 hH' hsM;go_wp2_with fail;go_ret;exact⟨⟨s,rfl,hsM'.out⟩,hE.out⟩
set_option maxHeartbeats 4000000 in
theorem mivar_any (b:List UInt8) (B g k:Nat) (w:World) (h:Mk b B g k w) (hl:b.length≤100000) (hk:k≤900000):
  Calls Tryz.prog 99 #[.pointer (some ⟨g,0,none⟩)] w (MkOut b B g (k+1) 1 w):=by
 have hbn:=aA w (.cells #[.string ⟨#[97]⟩,.string ⟨#[98]⟩,.string ⟨#[120]⟩,.string ⟨#[99]⟩,.string ⟨#[100]⟩,.string ⟨#[97]⟩] 9);have hH:=Holds.new w 9 #[.string ⟨#[97]⟩,.string ⟨#[98]⟩,.string ⟨#[120]⟩,.string ⟨#[99]⟩,.string ⟨#[100]⟩,.string ⟨#[97]⟩]
 obtain⟨w1,hw1⟩:∃z,z=w.alloc (.cells #[.string ⟨#[97]⟩,.string ⟨#[98]⟩,.string ⟨#[120]⟩,.string ⟨#[99]⟩,.string ⟨#[100]⟩,.string ⟨#[97]⟩] 9):=⟨_,rfl⟩;obtain⟨g1,hg1⟩:∃z,z=w.heap.size:=⟨_,rfl⟩;rw[←hw1]at hbn hH
 have hne:g1≠g:=by have:=h.lt;omega
 have cN:=Za (mnext_any b B g k w1 (h.below hbn) hl (by omega) 6 (by decide) (by decide));have hW1:=Za (Writes.of_below hbn [some g]);rw[←hg1]at hH;have hH':=Za hH;have hfo:=Za hw1.symm;have hgo:=Za hg1.symm;clear hbn hH hw1 hg1 h;go_enter Tryz.func99,Tryz.ntmps99;go_wp2_with fail;rw[hfo.out,hgo.out];clear hfo hgo;refine cN.out.mono ?_;clear cN
 rintro e w2 ⟨⟨r,rfl,hr⟩,hM2,hW2⟩;have hH2:=hW2.holds hH'.out (by simpa using hne);obtain⟨s,hs,hsM⟩:=pick_at (l:= [⟨#[97]⟩,⟨#[98]⟩,⟨#[120]⟩,⟨#[99]⟩,⟨#[100]⟩,⟨#[97]⟩]) (M:=1) hH2 hr (by decide);have ql:=hH2.lt;have hE:=Za (And.intro hM2 (hW1.out.trans hW2));have hsM':=Za hsM;clear hH2 hM2 hW2 hW1 hH' hsM;go_wp2_with fail;go_ret;exact⟨⟨s,rfl,hsM'.out⟩,hE.out⟩
set_option maxHeartbeats 4000000 in
theorem mpvar_any (b:List UInt8) (B g k:Nat) (w:World) (h:Mk b B g k w) (hl:b.length≤100000) (hk:k≤900000) (kk:Nat) (hkk:kk<4):
  Calls Tryz.prog 150 #[.pointer (some ⟨g,0,none⟩),.int .i64 kk] w (MkOut b B g (k+1) 1 w):=by
 have cN:=Za (mnext_any b B g k w h hl (by omega) 2 (by decide) (by decide));have h':=Za h;clear h;by_cases h2:2≤kk
 ·have c1:(2:Int)≤((kk:Int)%4):=by omega
  go_enter Tryz.func150,Tryz.ntmps150;go_wp2_with fail;refine cN.out.mono ?_;clear cN;rintro e w2 ⟨⟨r,rfl,hr⟩,hM2,hW2⟩;have hE:=Za (And.intro hM2 hW2);clear hM2 hW2;by_cases hr0:r=0
  ·subst hr0;go_wp2_with fail;go_ret;exact⟨⟨_,rfl,by decide⟩,hE.out⟩
  ·have hrb:((r:Int)==0)=false:=by simp;omega
   go_wp2_with fail;go_ret;exact⟨⟨_,rfl,by decide⟩,hE.out⟩
 ·have c1:¬(2:Int)≤((kk:Int)%4):=by omega
  go_enter Tryz.func150,Tryz.ntmps150;go_wp2_with fail;go_ret;exact⟨⟨_,rfl,by decide⟩,h'.out.more (by omega),Writes.refl _ _⟩
end Go.Proofs.YtpndglghpojjkaaGreat
