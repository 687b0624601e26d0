/-
  The seat's maker of texts: bytes that choose: its state, its next.
-/
import Derived.Test.YtpndglghpojjkaaGreatPua2
import Derived.Test.YtpndglghpojjkaaGreatPua1
import Derived.Deep.QuietTactic
import Derived.BigQuiet
import Derived.StillTailTactics
set_option maxRecDepth 1000000
set_option maxHeartbeats 8000000

namespace Go.Proofs.YtpndglghpojjkaaGreat
open Go.RowKit Go.Deep

structure MkS (b:List UInt8) (B g:Nat) (A:Option Addr) (c i:Nat) (m:Int) (w:World):Prop where
 h:Holds w g 162 #[.slice A b.length c,.int .i64 i,.int .i64 m]
 b:Bytes w B A b
 lo:B≤g
theorem MkS.below {b:List UInt8} {B g:Nat} {A:Option Addr} {c i:Nat} {m:Int} {w w':World} (h:MkS b B g A c i m w) (hb:Below w.heap.size w w'):MkS b B g A c i m w':=
 ⟨h.h.below hb h.h.lt,Row.below h.b (hb.mono (Nat.le_of_lt (Nat.lt_of_le_of_lt h.lo h.h.lt))),h.lo⟩
theorem MkS.put {b:List UInt8} {B g:Nat} {A:Option Addr} {c i:Nat} {m:Int} {w:World} (h:MkS b B g A c i m w) (i':Nat):MkS b B g A c i' m (w.setCell ⟨g,1,none⟩ (.int .i64 i')):=
 ⟨h.h.store 1 _,Row.below h.b ((Writes.store (M:= [some g]) w (by simp) _).below (Nat.le_of_lt (Nat.lt_of_le_of_lt h.lo h.h.lt)) (fun k hk=>by simp at hk;rw[hk];exact h.lo)),h.lo⟩
theorem MkS.putM {b:List UInt8} {B g:Nat} {A:Option Addr} {c i:Nat} {m:Int} {w:World} (h:MkS b B g A c i m w) (m':Int):MkS b B g A c i m' (w.setCell ⟨g,2,none⟩ (.int .i64 m')):=
 ⟨h.h.store 2 _,Row.below h.b ((Writes.store (M:= [some g]) w (by simp) _).below (Nat.le_of_lt (Nat.lt_of_le_of_lt h.lo h.h.lt)) (fun k hk=>by simp at hk;rw[hk];exact h.lo)),h.lo⟩
def Mk (b:List UInt8) (B g k:Nat) (w:World):Prop:=∃A c i m,MkS b B g A c i m w∧i≤k∧-(k:Int)≤m∧m≤25
theorem Mk.below {b:List UInt8} {B g k:Nat} {w w':World} (h:Mk b B g k w) (hb:Below w.heap.size w w'):Mk b B g k w':=by
 obtain⟨A,c,i,m,hS,hi⟩:=h;exact⟨A,c,i,m,hS.below hb,hi⟩
theorem Mk.more {b:List UInt8} {B g k k':Nat} {w:World} (h:Mk b B g k w) (hk:k≤k'):Mk b B g k' w:=by
 obtain⟨A,c,i,m,hS,hi,h1,h2⟩:=h;exact⟨A,c,i,m,hS,by omega,by omega,h2⟩
set_option maxHeartbeats 4000000 in
theorem mnext_any (b:List UInt8) (B g k:Nat) (w:World) (h:Mk b B g k w) (hl:b.length≤100000) (hk:k≤1000000) (n:Nat) (hn:0<n) (hn2:n≤1000):
  Calls Tryz.prog 97 #[.pointer (some ⟨g,0,none⟩),.int .i64 n] w fun e w'=>(∃r:Nat,e= .returned (.int .i64 r)∧r<n)∧Mk b B g (k+1) w'∧Writes [some g] w w':=by
 obtain⟨A,c,i,m,hS,hi,hm1,hm2⟩:=h;have p0:w.cell? ⟨g,0,none⟩=some (.slice A b.length c):=hS.h.cell 0;have p1:w.cell? ⟨g,1,none⟩=some (.int .i64 i):=hS.h.cell 1;have pl:=hS.h.lt;by_cases hlt:i<b.length
 ·obtain⟨bb,off,hA,hbb,hcell⟩:=hS.b.at_ hlt;have hx:b[i].toNat<256:=b[i].toNat_lt;obtain⟨x,hxx⟩:∃x,x=b[i].toNat:=⟨_,rfl⟩;rw[←hxx]at hx hcell;subst hA;have hS':=Za hS;obtain⟨L,hL⟩:∃x,x=b.length:=⟨_,rfl⟩;rw[←hL]at p0 hlt hl;have hbl:bb<w.heap.size:=Nat.lt_of_lt_of_le hbb (Nat.le_of_lt (Nat.lt_of_le_of_lt hS.lo pl))
  have hW0:=Za (Writes.refl [some g] w);clear hxx hS hL;go_enter Tryz.func97,Tryz.ntmps97;go_wp2_with fail;go_quiet (fail);obtain⟨w1,hw1⟩:∃z,z=w.drewN nq:=⟨_,rfl⟩
  have hb1:Below w.heap.size w w1:=by rw[hw1];exact below_drewN (Below.refl _ _) nq
  rw[←hw1];have hS1:=hS'.out.below hb1;have hW1:=Za (Writes.of_below hb1 [some g]);replace hcell:=(hb1.cell (p:=⟨bb,off+i,none⟩) hbl).trans hcell;have hbl1:=Nat.lt_of_lt_of_le hbl hb1.size;clear hw1 hb1 p0 p1 pl hbl hS' hW0;have p0:w1.cell? ⟨g,0,none⟩=some (.slice (some ⟨bb,off,none⟩) b.length c):=hS1.h.cell 0
  have p1:w1.cell? ⟨g,1,none⟩=some (.int .i64 i):=hS1.h.cell 1;have pl:=hS1.h.lt;have hS1':=Za hS1;clear hS1;go_wp2_with fail;go_quiet (fail);obtain⟨w2,hw2⟩:∃z,z=w1.drewN nq:=⟨_,rfl⟩
  have hb2:Below w1.heap.size w1 w2:=by rw[hw2];exact below_drewN (Below.refl _ _) nq
  rw[←hw2];have hS2:=hS1'.out.below hb2;have hW2:=hW1.out.trans (Writes.of_below hb2 [some g]);clear hw2 hb2 p0 p1 pl hcell hbl1 hS1' hW1;have p1:w2.cell? ⟨g,1,none⟩=some (.int .i64 i):=hS2.h.cell 1;have pl:=hS2.h.lt;have pz:=hS2.h.frozen 1
  have hE:=Za (And.intro (hS2.put (i+1)) (hW2.trans (Writes.store (M:= [some g]) w2 (p:=⟨g,1,none⟩) (by simp) (.int .i64 ((i+1:Nat):Int)))));clear hS2 hW2;go_wp2_with fail;go_ret;exact⟨⟨x%n,rfl,Nat.mod_lt _ hn⟩,⟨_,_,_,_,hE.out.1,by omega,by omega,hm2⟩,hE.out.2⟩
 ·have hS':=Za hS;obtain⟨L,hL⟩:∃x,x=b.length:=⟨_,rfl⟩;rw[←hL]at p0 hlt hl;clear hS hL;go_enter Tryz.func97,Tryz.ntmps97;go_wp2_with fail;go_quiet (fail);obtain⟨w2,hw2⟩:∃z,z=w.drewN nq:=⟨_,rfl⟩
  have hb2:Below w.heap.size w w2:=by rw[hw2];exact below_drewN (Below.refl _ _) nq
  rw[←hw2];have hS2:=hS'.out.below hb2;have hW2:=Writes.of_below hb2 [some g];clear hw2 hb2 p0 p1 pl hS';have p1:w2.cell? ⟨g,1,none⟩=some (.int .i64 i):=hS2.h.cell 1;have pl:=hS2.h.lt;have pz:=hS2.h.frozen 1;have hE:=Za (And.intro (hS2.put (i+1)) (hW2.trans (Writes.store (M:= [some g]) w2 (p:=⟨g,1,none⟩) (by simp) (.int .i64 ((i+1:Nat):Int)))));clear hS2 hW2
  go_wp2_with fail;go_ret;exact⟨⟨0,rfl,hn⟩,⟨_,_,_,_,hE.out.1,by omega,by omega,hm2⟩,hE.out.2⟩
end Go.Proofs.YtpndglghpojjkaaGreat
