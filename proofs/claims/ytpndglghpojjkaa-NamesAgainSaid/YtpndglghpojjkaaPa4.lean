/-
  10 texts of the proof, in one file: no condition.
-/
import Derived.Test.YtpndglghpojjkaaPa3
import Derived.OwnWalk
import Derived.Lib.SliceRun
import Derived.Maps.AppendAt
import Derived.Test.YtpndglghpojjkaaPa1
import Derived.Deep.DeepCutAuto
/- Package names: sound: whether a statement itself keeps the rules; a theorem a kind. -/
namespace Go.Proofs.Ytpndglghpojjkaa
open Go.RowKit Go.Deep

/-- A statement's cells, each written out. -/
def stC (h : Hd) (pe pf pc : Option Addr) (Aa At Al : Option Addr) (na ca nt ct nl cl : Nat) : Array Value :=
 #[.int .i64 h.k, .string (strV h.x), .string (strV h.y), .pointer pe, .pointer pf, .pointer pc, .slice Aa na ca, .slice At nt ct, .slice Al nl cl, .int .i64 h.at_]
/-- A resolver in block r, a statement in block g. -/
structure Snd (m : Nat) (K : List UInt8 → Nat) (h : Hd) (pe pf pc : Option Addr) (Aa : Option Addr) (na ca : Nat) (cs : Array Value) (r g : Nat) (w0 w : World) : Prop where
 rs : Rsv m K r w0 w
 hs : Holds w g 38 cs
 hd : HdAt w Evr h (.pointer pe) (.pointer pf) (.pointer pc) (.slice Aa na ca)
section
variable {m : Nat} {K : List UInt8 → Nat} {h : Hd} {pe pf pc : Option Addr} {Aa At Al : Option Addr} {na ca nt ct nl cl : Nat} {cs : Array Value} {r g : Nat} {w0 w w' : World}
theorem HdAt.below {S : Nat → Prop} {ve vf vc va : Value} (H : HdAt w S h ve vf vc va) (hb : Below w.heap.size w w') : HdAt w' S h ve vf vc va := H.keep fun x hx _ => hb.block x hx
theorem Snd.below (H : Snd m K h pe pf pc Aa na ca cs r g w0 w) (hb : Below w.heap.size w w') : Snd m K h pe pf pc Aa na ca cs r g w0 w' :=
 ⟨H.rs.below hb, H.hs.below hb H.hs.lt, H.hd.below hb⟩
theorem Snd.facts (H : Snd m K h pe pf pc Aa na ca (stC h pe pf pc Aa At Al na ca nt ct nl cl) r g w0 w) : w.cell? ⟨r, 0, none⟩ = some (.map (some m)) ∧ r < w.heap.size ∧ g < w.heap.size ∧ w.cell? ⟨g, 0, none⟩ = some (.int .i64 h.k) ∧ w.cell? ⟨g, 1, none⟩ = some (.string (strV h.x)) ∧ w.cell? ⟨g, 2, none⟩ = some (.string (strV h.y)) ∧
  w.cell? ⟨g, 3, none⟩ = some (.pointer pe) ∧ w.cell? ⟨g, 4, none⟩ = some (.pointer pf) ∧ w.cell? ⟨g, 5, none⟩ = some (.pointer pc) ∧ w.cell? ⟨g, 6, none⟩ = some (.slice Aa na ca) :=
 ⟨H.rs.hr.cell 0, H.rs.hr.lt, H.hs.lt, H.hs.cell 0, H.hs.cell 1, H.hs.cell 2, H.hs.cell 3, H.hs.cell 4, H.hs.cell 5, H.hs.cell 6⟩
end
set_option maxRecDepth 100000 in
set_option maxHeartbeats 2000000 in
theorem sound_k0 (w : World) (m : Nat) (K : List UInt8 → Nat) (hK : KMap w m K) (x y : List UInt8) (e f : Ex) (c : Cn) (ags : List Ag) (at_ : Nat) (pe pf pc : Option Addr) (Aa At Al : Option Addr) (na ca nt ct nl cl : Nat)
  (H : HdAt w Evr ⟨0, x, y, e, f, c, ags, at_⟩ (.pointer pe) (.pointer pf) (.pointer pc) (.slice Aa na ca)) :
  Calls Try.prog 26 #[.agg #[.map (some m)], .agg (stC ⟨0, x, y, e, f, c, ags, at_⟩ pe pf pc Aa At Al na ca nt ct nl cl)] w fun e' w' => e' = .returned (.bool (soundP K ⟨0, x, y, e, f, c, ags, at_⟩)) ∧ Below w.heap.size w w' := by
 have hR := Rsv.start hK
 obtain ⟨w1, hw1⟩ : ∃ y, y = w.alloc (.cells #[.map (some m)] 66) := ⟨_, rfl⟩
 rw [← hw1] at hR
 obtain ⟨w2, hw2⟩ : ∃ z, z = w1.alloc (.cells (stC ⟨0, x, y, e, f, c, ags, at_⟩ pe pf pc Aa At Al na ca nt ct nl cl) 38) := ⟨_, rfl⟩
 have hs2 := Holds.new w1 38 (stC ⟨0, x, y, e, f, c, ags, at_⟩ pe pf pc Aa At Al na ca nt ct nl cl)
 rw [← hw2] at hs2
 have hb2 : Below w1.heap.size w1 w2 := by rw [hw2]; exact below_new w1 _
 have hb1 : Below w.heap.size w w1 := by rw [hw1]; exact below_new w _
 have hsz : w1.heap.size = w.heap.size + 1 := by rw [hw1]; simp
 obtain ⟨r, hr⟩ : ∃ y, y = w.heap.size := ⟨_, rfl⟩
 rw [hsz, ← hr] at hs2
 rw [← hr] at hR
 have hx := H.x
 have hy := H.y
 simp only at hx hy
 have hS : Snd m K ⟨0, x, y, e, f, c, ags, at_⟩ pe pf pc Aa na ca (stC ⟨0, x, y, e, f, c, ags, at_⟩ pe pf pc Aa At Al na ca nt ct nl cl) r (r + 1) w w2 := ⟨hR.below hb2, hs2, (H.below hb1).below hb2⟩
 have hfold : Hid ((w.alloc (.cells #[.map (some m)] 66)).alloc (.cells (stC ⟨0, x, y, e, f, c, ags, at_⟩ pe pf pc Aa At Al na ca nt ct nl cl) 38) = w2) := Lib.hid (by rw [hw2, hw1])
 have hrB := Lib.hid hr.symm
 clear hw1 hw2 hs2 hb2 hb1 hsz hr hR H hK
 unfold stC at hfold
 unfold stC
 go_enter Try.func26, Try.ntmps26
 go_upto_region 1 with (fail)
 simp only at hfold
 rw [show (((0 : Nat) : Int)) = 0 from rfl] at hfold
 rw [hrB.out, hfold.out]
 clear hfold
 obtain ⟨qr, qrl, qsl, q0, q1, q2, q3, q4, q5, q6⟩ := hS.facts
 simp only at q0 q1 q2
 have hS1 := Lib.hid hS
 clear hS
 go_wp2_with fail
 refine (pointer_any _ m K hS1.out.rs.km x hx).mono ?_
 rintro e1 w3 ⟨rfl, hb⟩
 have hS := hS1.out.below hb
 clear hb hS1 q0 q1 q2 q3 q4 q5 q6 qr qrl qsl
 cases hp0 : (K x == 2) with
 | true =>
  have hq0 := hp0
  try simp at hq0
  clear hp0
  obtain ⟨qr, qrl, qsl, q0, q1, q2, q3, q4, q5, q6⟩ := hS.facts
  simp only at q0 q1 q2
  have hS1 := Lib.hid hS
  clear hS
  go_wp2_with fail
  refine (named2_any _ m K hS1.out.rs.km e _ hS1.out.hd.e).mono ?_
  rintro e1 w4 ⟨rfl, hb⟩
  have hS := hS1.out.below hb
  clear hb hS1 q0 q1 q2 q3 q4 q5 q6 qr qrl qsl
  cases hp1 : ptrF K e with
  | true =>
   have hq1 := hp1
   try simp at hq1
   clear hp1
   obtain ⟨qr, qrl, qsl, q0, q1, q2, q3, q4, q5, q6⟩ := hS.facts
   simp only at q0 q1 q2
   have hS1 := Lib.hid hS
   clear hS
   have hres : Hid (soundP K ⟨0, x, y, e, f, c, ags, at_⟩ = true) := Lib.hid (by first | (simp [soundP, *]; done) | (simp [soundP, *]; assumption))
   clear hq0 hq1
   go_wp2_with fail
   go_ret
   exact ⟨by rw [hres.out]; rfl, hS1.out.rs.bl⟩
  | false =>
   have hq1 := hp1
   try simp at hq1
   clear hp1
   obtain ⟨qr, qrl, qsl, q0, q1, q2, q3, q4, q5, q6⟩ := hS.facts
   simp only at q0 q1 q2
   have hS1 := Lib.hid hS
   clear hS
   have hres : Hid (soundP K ⟨0, x, y, e, f, c, ags, at_⟩ = false) := Lib.hid (by first | (simp [soundP, *]; done) | (simp [soundP, *]; assumption))
   clear hq0 hq1
   go_wp2_with fail
   go_ret
   exact ⟨by rw [hres.out]; rfl, hS1.out.rs.bl⟩
 | false =>
  have hq0 := hp0
  try simp at hq0
  clear hp0
  obtain ⟨qr, qrl, qsl, q0, q1, q2, q3, q4, q5, q6⟩ := hS.facts
  simp only at q0 q1 q2
  have hS1 := Lib.hid hS
  clear hS
  have hES := ExsAt.one 34 hS1.out.hd.e
  simp only at hES
  obtain ⟨wl, hwl⟩ : ∃ z, z = World.alloc w3 (.cells #[.pointer pe] 34) := ⟨_, rfl⟩
  rw [← hwl] at hES
  have hS := hS1.out.below (by rw [hwl]; exact below_new _ _ : Below (World.heap w3).size w3 wl)
  have hS2 := Lib.hid hS
  have hES2 := Lib.hid hES
  have hwl2 := Lib.hid hwl.symm
  clear hS hES hwl
  go_wp2_with fail
  rw [hwl2.out]
  refine (free_any wl m K hS2.out.rs.km [e] _ 1 (by simp) hES2.out).mono ?_
  rintro e1 w4 ⟨rfl, hb⟩
  have hS := hS2.out.below hb
  have hfe : Hid ([e].all (freeP K) = freeP K e) := Lib.hid (by simp)
  rw [hfe.out]
  clear hb hS1 hS2 hES2 hwl2 hfe q0 q1 q2 q3 q4 q5 q6 qr qrl qsl
  cases hp1 : freeP K e with
  | true =>
   have hq1 := hp1
   try simp at hq1
   clear hp1
   obtain ⟨qr, qrl, qsl, q0, q1, q2, q3, q4, q5, q6⟩ := hS.facts
   simp only at q0 q1 q2
   have hS1 := Lib.hid hS
   clear hS
   have hres : Hid (soundP K ⟨0, x, y, e, f, c, ags, at_⟩ = true) := Lib.hid (by first | (simp [soundP, *]; done) | (simp [soundP, *]; assumption))
   clear hq0 hq1
   go_wp2_with fail
   go_ret
   exact ⟨by rw [hres.out]; rfl, hS1.out.rs.bl⟩
  | false =>
   have hq1 := hp1
   try simp at hq1
   clear hp1
   obtain ⟨qr, qrl, qsl, q0, q1, q2, q3, q4, q5, q6⟩ := hS.facts
   simp only at q0 q1 q2
   have hS1 := Lib.hid hS
   clear hS
   have hres : Hid (soundP K ⟨0, x, y, e, f, c, ags, at_⟩ = false) := Lib.hid (by first | (simp [soundP, *]; done) | (simp [soundP, *]; assumption))
   clear hq0 hq1
   go_wp2_with fail
   go_ret
   exact ⟨by rw [hres.out]; rfl, hS1.out.rs.bl⟩
set_option maxRecDepth 100000 in
set_option maxHeartbeats 2000000 in
theorem sound_k1 (w : World) (m : Nat) (K : List UInt8 → Nat) (hK : KMap w m K) (x y : List UInt8) (e f : Ex) (c : Cn) (ags : List Ag) (at_ : Nat) (pe pf pc : Option Addr) (Aa At Al : Option Addr) (na ca nt ct nl cl : Nat)
  (H : HdAt w Evr ⟨1, x, y, e, f, c, ags, at_⟩ (.pointer pe) (.pointer pf) (.pointer pc) (.slice Aa na ca)) :
  Calls Try.prog 26 #[.agg #[.map (some m)], .agg (stC ⟨1, x, y, e, f, c, ags, at_⟩ pe pf pc Aa At Al na ca nt ct nl cl)] w fun e' w' => e' = .returned (.bool (soundP K ⟨1, x, y, e, f, c, ags, at_⟩)) ∧ Below w.heap.size w w' := by
 have hR := Rsv.start hK
 obtain ⟨w1, hw1⟩ : ∃ y, y = w.alloc (.cells #[.map (some m)] 66) := ⟨_, rfl⟩
 rw [← hw1] at hR
 obtain ⟨w2, hw2⟩ : ∃ z, z = w1.alloc (.cells (stC ⟨1, x, y, e, f, c, ags, at_⟩ pe pf pc Aa At Al na ca nt ct nl cl) 38) := ⟨_, rfl⟩
 have hs2 := Holds.new w1 38 (stC ⟨1, x, y, e, f, c, ags, at_⟩ pe pf pc Aa At Al na ca nt ct nl cl)
 rw [← hw2] at hs2
 have hb2 : Below w1.heap.size w1 w2 := by rw [hw2]; exact below_new w1 _
 have hb1 : Below w.heap.size w w1 := by rw [hw1]; exact below_new w _
 have hsz : w1.heap.size = w.heap.size + 1 := by rw [hw1]; simp
 obtain ⟨r, hr⟩ : ∃ y, y = w.heap.size := ⟨_, rfl⟩
 rw [hsz, ← hr] at hs2
 rw [← hr] at hR
 have hx := H.x
 have hy := H.y
 simp only at hx hy
 have hS : Snd m K ⟨1, x, y, e, f, c, ags, at_⟩ pe pf pc Aa na ca (stC ⟨1, x, y, e, f, c, ags, at_⟩ pe pf pc Aa At Al na ca nt ct nl cl) r (r + 1) w w2 := ⟨hR.below hb2, hs2, (H.below hb1).below hb2⟩
 have hfold : Hid ((w.alloc (.cells #[.map (some m)] 66)).alloc (.cells (stC ⟨1, x, y, e, f, c, ags, at_⟩ pe pf pc Aa At Al na ca nt ct nl cl) 38) = w2) := Lib.hid (by rw [hw2, hw1])
 have hrB := Lib.hid hr.symm
 clear hw1 hw2 hs2 hb2 hb1 hsz hr hR H hK
 unfold stC at hfold
 unfold stC
 go_enter Try.func26, Try.ntmps26
 go_upto_region 1 with (fail)
 simp only at hfold
 rw [show (((1 : Nat) : Int)) = 1 from rfl] at hfold
 rw [hrB.out, hfold.out]
 clear hfold
 obtain ⟨qr, qrl, qsl, q0, q1, q2, q3, q4, q5, q6⟩ := hS.facts
 simp only at q0 q1 q2
 have hS1 := Lib.hid hS
 clear hS
 go_wp2_with fail
 refine (pointer_any _ m K hS1.out.rs.km x hx).mono ?_
 rintro e1 w3 ⟨rfl, hb⟩
 have hS := hS1.out.below hb
 clear hb hS1 q0 q1 q2 q3 q4 q5 q6 qr qrl qsl
 cases hp0 : (K x == 2) with
 | true =>
  have hq0 := hp0
  try simp at hq0
  clear hp0
  obtain ⟨qr, qrl, qsl, q0, q1, q2, q3, q4, q5, q6⟩ := hS.facts
  simp only at q0 q1 q2
  have hS1 := Lib.hid hS
  clear hS
  go_wp2_with fail
  refine (global_any _ m K hS1.out.rs.km y hy).mono ?_
  rintro e1 w4 ⟨rfl, hb⟩
  have hS := hS1.out.below hb
  clear hb hS1 q0 q1 q2 q3 q4 q5 q6 qr qrl qsl
  cases hp1 : (K y == 0) with
  | true =>
   have hq1 := hp1
   try simp at hq1
   clear hp1
   obtain ⟨qr, qrl, qsl, q0, q1, q2, q3, q4, q5, q6⟩ := hS.facts
   simp only at q0 q1 q2
   have hS1 := Lib.hid hS
   clear hS
   have hres : Hid (soundP K ⟨1, x, y, e, f, c, ags, at_⟩ = true) := Lib.hid (by first | (simp [soundP, *]; done) | (simp [soundP, *]; assumption))
   clear hq0 hq1
   go_wp2_with fail
   go_ret
   exact ⟨by rw [hres.out]; rfl, hS1.out.rs.bl⟩
  | false =>
   have hq1 := hp1
   try simp at hq1
   clear hp1
   obtain ⟨qr, qrl, qsl, q0, q1, q2, q3, q4, q5, q6⟩ := hS.facts
   simp only at q0 q1 q2
   have hS1 := Lib.hid hS
   clear hS
   have hres : Hid (soundP K ⟨1, x, y, e, f, c, ags, at_⟩ = false) := Lib.hid (by first | (simp [soundP, *]; done) | (simp [soundP, *]; assumption))
   clear hq0 hq1
   go_wp2_with fail
   go_ret
   exact ⟨by rw [hres.out]; rfl, hS1.out.rs.bl⟩
 | false =>
  have hq0 := hp0
  try simp at hq0
  clear hp0
  obtain ⟨qr, qrl, qsl, q0, q1, q2, q3, q4, q5, q6⟩ := hS.facts
  simp only at q0 q1 q2
  have hS1 := Lib.hid hS
  clear hS
  have hres : Hid (soundP K ⟨1, x, y, e, f, c, ags, at_⟩ = false) := Lib.hid (by first | (simp [soundP, *]; done) | (simp [soundP, *]; assumption))
  clear hq0
  go_wp2_with fail
  go_ret
  exact ⟨by rw [hres.out]; rfl, hS1.out.rs.bl⟩
set_option maxRecDepth 100000 in
set_option maxHeartbeats 2000000 in
theorem sound_k2 (w : World) (m : Nat) (K : List UInt8 → Nat) (hK : KMap w m K) (x y : List UInt8) (e f : Ex) (c : Cn) (ags : List Ag) (at_ : Nat) (pe pf pc : Option Addr) (Aa At Al : Option Addr) (na ca nt ct nl cl : Nat)
  (H : HdAt w Evr ⟨2, x, y, e, f, c, ags, at_⟩ (.pointer pe) (.pointer pf) (.pointer pc) (.slice Aa na ca)) :
  Calls Try.prog 26 #[.agg #[.map (some m)], .agg (stC ⟨2, x, y, e, f, c, ags, at_⟩ pe pf pc Aa At Al na ca nt ct nl cl)] w fun e' w' => e' = .returned (.bool (soundP K ⟨2, x, y, e, f, c, ags, at_⟩)) ∧ Below w.heap.size w w' := by
 have hR := Rsv.start hK
 obtain ⟨w1, hw1⟩ : ∃ y, y = w.alloc (.cells #[.map (some m)] 66) := ⟨_, rfl⟩
 rw [← hw1] at hR
 obtain ⟨w2, hw2⟩ : ∃ z, z = w1.alloc (.cells (stC ⟨2, x, y, e, f, c, ags, at_⟩ pe pf pc Aa At Al na ca nt ct nl cl) 38) := ⟨_, rfl⟩
 have hs2 := Holds.new w1 38 (stC ⟨2, x, y, e, f, c, ags, at_⟩ pe pf pc Aa At Al na ca nt ct nl cl)
 rw [← hw2] at hs2
 have hb2 : Below w1.heap.size w1 w2 := by rw [hw2]; exact below_new w1 _
 have hb1 : Below w.heap.size w w1 := by rw [hw1]; exact below_new w _
 have hsz : w1.heap.size = w.heap.size + 1 := by rw [hw1]; simp
 obtain ⟨r, hr⟩ : ∃ y, y = w.heap.size := ⟨_, rfl⟩
 rw [hsz, ← hr] at hs2
 rw [← hr] at hR
 have hx := H.x
 have hy := H.y
 simp only at hx hy
 have hS : Snd m K ⟨2, x, y, e, f, c, ags, at_⟩ pe pf pc Aa na ca (stC ⟨2, x, y, e, f, c, ags, at_⟩ pe pf pc Aa At Al na ca nt ct nl cl) r (r + 1) w w2 := ⟨hR.below hb2, hs2, (H.below hb1).below hb2⟩
 have hfold : Hid ((w.alloc (.cells #[.map (some m)] 66)).alloc (.cells (stC ⟨2, x, y, e, f, c, ags, at_⟩ pe pf pc Aa At Al na ca nt ct nl cl) 38) = w2) := Lib.hid (by rw [hw2, hw1])
 have hrB := Lib.hid hr.symm
 clear hw1 hw2 hs2 hb2 hb1 hsz hr hR H hK
 unfold stC at hfold
 unfold stC
 go_enter Try.func26, Try.ntmps26
 go_upto_region 1 with (fail)
 simp only at hfold
 rw [show (((2 : Nat) : Int)) = 2 from rfl] at hfold
 rw [hrB.out, hfold.out]
 clear hfold
 obtain ⟨qr, qrl, qsl, q0, q1, q2, q3, q4, q5, q6⟩ := hS.facts
 simp only at q0 q1 q2
 have hS1 := Lib.hid hS
 clear hS
 go_wp2_with fail
 refine (pointer_any _ m K hS1.out.rs.km x hx).mono ?_
 rintro e1 w3 ⟨rfl, hb⟩
 have hS := hS1.out.below hb
 clear hb hS1 q0 q1 q2 q3 q4 q5 q6 qr qrl qsl
 cases hp0 : (K x == 2) with
 | true =>
  have hq0 := hp0
  try simp at hq0
  clear hp0
  obtain ⟨qr, qrl, qsl, q0, q1, q2, q3, q4, q5, q6⟩ := hS.facts
  simp only at q0 q1 q2
  have hS1 := Lib.hid hS
  clear hS
  go_wp2_with fail
  refine (pointer_any _ m K hS1.out.rs.km y hy).mono ?_
  rintro e1 w4 ⟨rfl, hb⟩
  have hS := hS1.out.below hb
  clear hb hS1 q0 q1 q2 q3 q4 q5 q6 qr qrl qsl
  cases hp1 : (K y == 2) with
  | true =>
   have hq1 := hp1
   try simp at hq1
   clear hp1
   obtain ⟨qr, qrl, qsl, q0, q1, q2, q3, q4, q5, q6⟩ := hS.facts
   simp only at q0 q1 q2
   have hS1 := Lib.hid hS
   clear hS
   have hres : Hid (soundP K ⟨2, x, y, e, f, c, ags, at_⟩ = true) := Lib.hid (by first | (simp [soundP, *]; done) | (simp [soundP, *]; assumption))
   clear hq0 hq1
   go_wp2_with fail
   go_ret
   exact ⟨by rw [hres.out]; rfl, hS1.out.rs.bl⟩
  | false =>
   have hq1 := hp1
   try simp at hq1
   clear hp1
   obtain ⟨qr, qrl, qsl, q0, q1, q2, q3, q4, q5, q6⟩ := hS.facts
   simp only at q0 q1 q2
   have hS1 := Lib.hid hS
   clear hS
   have hres : Hid (soundP K ⟨2, x, y, e, f, c, ags, at_⟩ = false) := Lib.hid (by first | (simp [soundP, *]; done) | (simp [soundP, *]; assumption))
   clear hq0 hq1
   go_wp2_with fail
   go_ret
   exact ⟨by rw [hres.out]; rfl, hS1.out.rs.bl⟩
 | false =>
  have hq0 := hp0
  try simp at hq0
  clear hp0
  obtain ⟨qr, qrl, qsl, q0, q1, q2, q3, q4, q5, q6⟩ := hS.facts
  simp only at q0 q1 q2
  have hS1 := Lib.hid hS
  clear hS
  have hres : Hid (soundP K ⟨2, x, y, e, f, c, ags, at_⟩ = false) := Lib.hid (by first | (simp [soundP, *]; done) | (simp [soundP, *]; assumption))
  clear hq0
  go_wp2_with fail
  go_ret
  exact ⟨by rw [hres.out]; rfl, hS1.out.rs.bl⟩
set_option maxRecDepth 100000 in
set_option maxHeartbeats 2000000 in
theorem sound_k3 (w : World) (m : Nat) (K : List UInt8 → Nat) (hK : KMap w m K) (x y : List UInt8) (e f : Ex) (c : Cn) (ags : List Ag) (at_ : Nat) (pe pf pc : Option Addr) (Aa At Al : Option Addr) (na ca nt ct nl cl : Nat)
  (H : HdAt w Evr ⟨3, x, y, e, f, c, ags, at_⟩ (.pointer pe) (.pointer pf) (.pointer pc) (.slice Aa na ca)) :
  Calls Try.prog 26 #[.agg #[.map (some m)], .agg (stC ⟨3, x, y, e, f, c, ags, at_⟩ pe pf pc Aa At Al na ca nt ct nl cl)] w fun e' w' => e' = .returned (.bool (soundP K ⟨3, x, y, e, f, c, ags, at_⟩)) ∧ Below w.heap.size w w' := by
 have hR := Rsv.start hK
 obtain ⟨w1, hw1⟩ : ∃ y, y = w.alloc (.cells #[.map (some m)] 66) := ⟨_, rfl⟩
 rw [← hw1] at hR
 obtain ⟨w2, hw2⟩ : ∃ z, z = w1.alloc (.cells (stC ⟨3, x, y, e, f, c, ags, at_⟩ pe pf pc Aa At Al na ca nt ct nl cl) 38) := ⟨_, rfl⟩
 have hs2 := Holds.new w1 38 (stC ⟨3, x, y, e, f, c, ags, at_⟩ pe pf pc Aa At Al na ca nt ct nl cl)
 rw [← hw2] at hs2
 have hb2 : Below w1.heap.size w1 w2 := by rw [hw2]; exact below_new w1 _
 have hb1 : Below w.heap.size w w1 := by rw [hw1]; exact below_new w _
 have hsz : w1.heap.size = w.heap.size + 1 := by rw [hw1]; simp
 obtain ⟨r, hr⟩ : ∃ y, y = w.heap.size := ⟨_, rfl⟩
 rw [hsz, ← hr] at hs2
 rw [← hr] at hR
 have hx := H.x
 have hy := H.y
 simp only at hx hy
 have hS : Snd m K ⟨3, x, y, e, f, c, ags, at_⟩ pe pf pc Aa na ca (stC ⟨3, x, y, e, f, c, ags, at_⟩ pe pf pc Aa At Al na ca nt ct nl cl) r (r + 1) w w2 := ⟨hR.below hb2, hs2, (H.below hb1).below hb2⟩
 have hfold : Hid ((w.alloc (.cells #[.map (some m)] 66)).alloc (.cells (stC ⟨3, x, y, e, f, c, ags, at_⟩ pe pf pc Aa At Al na ca nt ct nl cl) 38) = w2) := Lib.hid (by rw [hw2, hw1])
 have hrB := Lib.hid hr.symm
 clear hw1 hw2 hs2 hb2 hb1 hsz hr hR H hK
 unfold stC at hfold
 unfold stC
 go_enter Try.func26, Try.ntmps26
 go_upto_region 1 with (fail)
 simp only at hfold
 rw [show (((3 : Nat) : Int)) = 3 from rfl] at hfold
 rw [hrB.out, hfold.out]
 clear hfold
 obtain ⟨qr, qrl, qsl, q0, q1, q2, q3, q4, q5, q6⟩ := hS.facts
 simp only at q0 q1 q2
 have hS1 := Lib.hid hS
 clear hS
 go_wp2_with fail
 refine (pointer_any _ m K hS1.out.rs.km x hx).mono ?_
 rintro e1 w3 ⟨rfl, hb⟩
 have hS := hS1.out.below hb
 clear hb hS1 q0 q1 q2 q3 q4 q5 q6 qr qrl qsl
 cases hp0 : (K x == 2) with
 | true =>
  have hq0 := hp0
  try simp at hq0
  clear hp0
  obtain ⟨qr, qrl, qsl, q0, q1, q2, q3, q4, q5, q6⟩ := hS.facts
  simp only at q0 q1 q2
  have hS1 := Lib.hid hS
  clear hS
  have hres : Hid (soundP K ⟨3, x, y, e, f, c, ags, at_⟩ = true) := Lib.hid (by first | (simp [soundP, *]; done) | (simp [soundP, *]; assumption))
  clear hq0
  go_wp2_with fail
  go_ret
  exact ⟨by rw [hres.out]; rfl, hS1.out.rs.bl⟩
 | false =>
  have hq0 := hp0
  try simp at hq0
  clear hp0
  obtain ⟨qr, qrl, qsl, q0, q1, q2, q3, q4, q5, q6⟩ := hS.facts
  simp only at q0 q1 q2
  have hS1 := Lib.hid hS
  clear hS
  have hres : Hid (soundP K ⟨3, x, y, e, f, c, ags, at_⟩ = false) := Lib.hid (by first | (simp [soundP, *]; done) | (simp [soundP, *]; assumption))
  clear hq0
  go_wp2_with fail
  go_ret
  exact ⟨by rw [hres.out]; rfl, hS1.out.rs.bl⟩
set_option maxRecDepth 100000 in
set_option maxHeartbeats 2000000 in
theorem sound_k4 (w : World) (m : Nat) (K : List UInt8 → Nat) (hK : KMap w m K) (x y : List UInt8) (e f : Ex) (c : Cn) (ags : List Ag) (at_ : Nat) (pe pf pc : Option Addr) (Aa At Al : Option Addr) (na ca nt ct nl cl : Nat)
  (H : HdAt w Evr ⟨4, x, y, e, f, c, ags, at_⟩ (.pointer pe) (.pointer pf) (.pointer pc) (.slice Aa na ca)) :
  Calls Try.prog 26 #[.agg #[.map (some m)], .agg (stC ⟨4, x, y, e, f, c, ags, at_⟩ pe pf pc Aa At Al na ca nt ct nl cl)] w fun e' w' => e' = .returned (.bool (soundP K ⟨4, x, y, e, f, c, ags, at_⟩)) ∧ Below w.heap.size w w' := by
 have hR := Rsv.start hK
 obtain ⟨w1, hw1⟩ : ∃ y, y = w.alloc (.cells #[.map (some m)] 66) := ⟨_, rfl⟩
 rw [← hw1] at hR
 obtain ⟨w2, hw2⟩ : ∃ z, z = w1.alloc (.cells (stC ⟨4, x, y, e, f, c, ags, at_⟩ pe pf pc Aa At Al na ca nt ct nl cl) 38) := ⟨_, rfl⟩
 have hs2 := Holds.new w1 38 (stC ⟨4, x, y, e, f, c, ags, at_⟩ pe pf pc Aa At Al na ca nt ct nl cl)
 rw [← hw2] at hs2
 have hb2 : Below w1.heap.size w1 w2 := by rw [hw2]; exact below_new w1 _
 have hb1 : Below w.heap.size w w1 := by rw [hw1]; exact below_new w _
 have hsz : w1.heap.size = w.heap.size + 1 := by rw [hw1]; simp
 obtain ⟨r, hr⟩ : ∃ y, y = w.heap.size := ⟨_, rfl⟩
 rw [hsz, ← hr] at hs2
 rw [← hr] at hR
 have hx := H.x
 have hy := H.y
 simp only at hx hy
 have hS : Snd m K ⟨4, x, y, e, f, c, ags, at_⟩ pe pf pc Aa na ca (stC ⟨4, x, y, e, f, c, ags, at_⟩ pe pf pc Aa At Al na ca nt ct nl cl) r (r + 1) w w2 := ⟨hR.below hb2, hs2, (H.below hb1).below hb2⟩
 have hfold : Hid ((w.alloc (.cells #[.map (some m)] 66)).alloc (.cells (stC ⟨4, x, y, e, f, c, ags, at_⟩ pe pf pc Aa At Al na ca nt ct nl cl) 38) = w2) := Lib.hid (by rw [hw2, hw1])
 have hrB := Lib.hid hr.symm
 clear hw1 hw2 hs2 hb2 hb1 hsz hr hR H hK
 unfold stC at hfold
 unfold stC
 go_enter Try.func26, Try.ntmps26
 go_upto_region 1 with (fail)
 simp only at hfold
 rw [show (((4 : Nat) : Int)) = 4 from rfl] at hfold
 rw [hrB.out, hfold.out]
 clear hfold
 obtain ⟨qr, qrl, qsl, q0, q1, q2, q3, q4, q5, q6⟩ := hS.facts
 simp only at q0 q1 q2
 have hS1 := Lib.hid hS
 clear hS
 go_wp2_with fail
 refine (pointer_any _ m K hS1.out.rs.km x hx).mono ?_
 rintro e1 w3 ⟨rfl, hb⟩
 have hS := hS1.out.below hb
 clear hb hS1 q0 q1 q2 q3 q4 q5 q6 qr qrl qsl
 cases hp0 : (K x == 2) with
 | true =>
  have hq0 := hp0
  try simp at hq0
  clear hp0
  obtain ⟨qr, qrl, qsl, q0, q1, q2, q3, q4, q5, q6⟩ := hS.facts
  simp only at q0 q1 q2
  have hS1 := Lib.hid hS
  clear hS
  have hres : Hid (soundP K ⟨4, x, y, e, f, c, ags, at_⟩ = false) := Lib.hid (by first | (simp [soundP, *]; done) | (simp [soundP, *]; assumption))
  clear hq0
  go_wp2_with fail
  go_ret
  exact ⟨by rw [hres.out]; rfl, hS1.out.rs.bl⟩
 | false =>
  have hq0 := hp0
  try simp at hq0
  clear hp0
  obtain ⟨qr, qrl, qsl, q0, q1, q2, q3, q4, q5, q6⟩ := hS.facts
  simp only at q0 q1 q2
  have hS1 := Lib.hid hS
  clear hS
  go_wp2_with fail
  refine (pointer_any _ m K hS1.out.rs.km y hy).mono ?_
  rintro e1 w4 ⟨rfl, hb⟩
  have hS := hS1.out.below hb
  clear hb hS1 q0 q1 q2 q3 q4 q5 q6 qr qrl qsl
  cases hp1 : (K y == 2) with
  | true =>
   have hq1 := hp1
   try simp at hq1
   clear hp1
   obtain ⟨qr, qrl, qsl, q0, q1, q2, q3, q4, q5, q6⟩ := hS.facts
   simp only at q0 q1 q2
   have hS1 := Lib.hid hS
   clear hS
   have hres : Hid (soundP K ⟨4, x, y, e, f, c, ags, at_⟩ = true) := Lib.hid (by first | (simp [soundP, *]; done) | (simp [soundP, *]; assumption))
   clear hq0 hq1
   go_wp2_with fail
   go_ret
   exact ⟨by rw [hres.out]; rfl, hS1.out.rs.bl⟩
  | false =>
   have hq1 := hp1
   try simp at hq1
   clear hp1
   obtain ⟨qr, qrl, qsl, q0, q1, q2, q3, q4, q5, q6⟩ := hS.facts
   simp only at q0 q1 q2
   have hS1 := Lib.hid hS
   clear hS
   have hres : Hid (soundP K ⟨4, x, y, e, f, c, ags, at_⟩ = false) := Lib.hid (by first | (simp [soundP, *]; done) | (simp [soundP, *]; assumption))
   clear hq0 hq1
   go_wp2_with fail
   go_ret
   exact ⟨by rw [hres.out]; rfl, hS1.out.rs.bl⟩
set_option maxRecDepth 100000 in
set_option maxHeartbeats 2000000 in
theorem sound_k5 (w : World) (m : Nat) (K : List UInt8 → Nat) (hK : KMap w m K) (x y : List UInt8) (e f : Ex) (c : Cn) (ags : List Ag) (at_ : Nat) (pe pf pc : Option Addr) (Aa At Al : Option Addr) (na ca nt ct nl cl : Nat)
  (H : HdAt w Evr ⟨5, x, y, e, f, c, ags, at_⟩ (.pointer pe) (.pointer pf) (.pointer pc) (.slice Aa na ca)) :
  Calls Try.prog 26 #[.agg #[.map (some m)], .agg (stC ⟨5, x, y, e, f, c, ags, at_⟩ pe pf pc Aa At Al na ca nt ct nl cl)] w fun e' w' => e' = .returned (.bool (soundP K ⟨5, x, y, e, f, c, ags, at_⟩)) ∧ Below w.heap.size w w' := by
 have hR := Rsv.start hK
 obtain ⟨w1, hw1⟩ : ∃ y, y = w.alloc (.cells #[.map (some m)] 66) := ⟨_, rfl⟩
 rw [← hw1] at hR
 obtain ⟨w2, hw2⟩ : ∃ z, z = w1.alloc (.cells (stC ⟨5, x, y, e, f, c, ags, at_⟩ pe pf pc Aa At Al na ca nt ct nl cl) 38) := ⟨_, rfl⟩
 have hs2 := Holds.new w1 38 (stC ⟨5, x, y, e, f, c, ags, at_⟩ pe pf pc Aa At Al na ca nt ct nl cl)
 rw [← hw2] at hs2
 have hb2 : Below w1.heap.size w1 w2 := by rw [hw2]; exact below_new w1 _
 have hb1 : Below w.heap.size w w1 := by rw [hw1]; exact below_new w _
 have hsz : w1.heap.size = w.heap.size + 1 := by rw [hw1]; simp
 obtain ⟨r, hr⟩ : ∃ y, y = w.heap.size := ⟨_, rfl⟩
 rw [hsz, ← hr] at hs2
 rw [← hr] at hR
 have hx := H.x
 have hy := H.y
 simp only at hx hy
 have hS : Snd m K ⟨5, x, y, e, f, c, ags, at_⟩ pe pf pc Aa na ca (stC ⟨5, x, y, e, f, c, ags, at_⟩ pe pf pc Aa At Al na ca nt ct nl cl) r (r + 1) w w2 := ⟨hR.below hb2, hs2, (H.below hb1).below hb2⟩
 have hfold : Hid ((w.alloc (.cells #[.map (some m)] 66)).alloc (.cells (stC ⟨5, x, y, e, f, c, ags, at_⟩ pe pf pc Aa At Al na ca nt ct nl cl) 38) = w2) := Lib.hid (by rw [hw2, hw1])
 have hrB := Lib.hid hr.symm
 clear hw1 hw2 hs2 hb2 hb1 hsz hr hR H hK
 unfold stC at hfold
 unfold stC
 go_enter Try.func26, Try.ntmps26
 go_upto_region 1 with (fail)
 simp only at hfold
 rw [show (((5 : Nat) : Int)) = 5 from rfl] at hfold
 rw [hrB.out, hfold.out]
 clear hfold
 obtain ⟨qr, qrl, qsl, q0, q1, q2, q3, q4, q5, q6⟩ := hS.facts
 simp only at q0 q1 q2
 have hS1 := Lib.hid hS
 clear hS
 go_wp2_with fail
 refine (pointer_any _ m K hS1.out.rs.km x hx).mono ?_
 rintro e1 w3 ⟨rfl, hb⟩
 have hS := hS1.out.below hb
 clear hb hS1 q0 q1 q2 q3 q4 q5 q6 qr qrl qsl
 cases hp0 : (K x == 2) with
 | true =>
  have hq0 := hp0
  try simp at hq0
  clear hp0
  obtain ⟨qr, qrl, qsl, q0, q1, q2, q3, q4, q5, q6⟩ := hS.facts
  simp only at q0 q1 q2
  have hS1 := Lib.hid hS
  clear hS
  have hES := ExsAt.one 34 hS1.out.hd.e
  simp only at hES
  obtain ⟨wl, hwl⟩ : ∃ z, z = World.alloc w3 (.cells #[.pointer pe] 34) := ⟨_, rfl⟩
  rw [← hwl] at hES
  have hS := hS1.out.below (by rw [hwl]; exact below_new _ _ : Below (World.heap w3).size w3 wl)
  have hS2 := Lib.hid hS
  have hES2 := Lib.hid hES
  have hwl2 := Lib.hid hwl.symm
  clear hS hES hwl
  go_wp2_with fail
  rw [hwl2.out]
  refine (free_any wl m K hS2.out.rs.km [e] _ 1 (by simp) hES2.out).mono ?_
  rintro e1 w4 ⟨rfl, hb⟩
  have hS := hS2.out.below hb
  have hfe : Hid ([e].all (freeP K) = freeP K e) := Lib.hid (by simp)
  rw [hfe.out]
  clear hb hS1 hS2 hES2 hwl2 hfe q0 q1 q2 q3 q4 q5 q6 qr qrl qsl
  cases hp1 : freeP K e with
  | true =>
   have hq1 := hp1
   try simp at hq1
   clear hp1
   obtain ⟨qr, qrl, qsl, q0, q1, q2, q3, q4, q5, q6⟩ := hS.facts
   simp only at q0 q1 q2
   have hS1 := Lib.hid hS
   clear hS
   have hres : Hid (soundP K ⟨5, x, y, e, f, c, ags, at_⟩ = true) := Lib.hid (by first | (simp [soundP, *]; done) | (simp [soundP, *]; assumption))
   clear hq0 hq1
   go_wp2_with fail
   go_ret
   exact ⟨by rw [hres.out]; rfl, hS1.out.rs.bl⟩
  | false =>
   have hq1 := hp1
   try simp at hq1
   clear hp1
   obtain ⟨qr, qrl, qsl, q0, q1, q2, q3, q4, q5, q6⟩ := hS.facts
   simp only at q0 q1 q2
   have hS1 := Lib.hid hS
   clear hS
   have hres : Hid (soundP K ⟨5, x, y, e, f, c, ags, at_⟩ = false) := Lib.hid (by first | (simp [soundP, *]; done) | (simp [soundP, *]; assumption))
   clear hq0 hq1
   go_wp2_with fail
   go_ret
   exact ⟨by rw [hres.out]; rfl, hS1.out.rs.bl⟩
 | false =>
  have hq0 := hp0
  try simp at hq0
  clear hp0
  obtain ⟨qr, qrl, qsl, q0, q1, q2, q3, q4, q5, q6⟩ := hS.facts
  simp only at q0 q1 q2
  have hS1 := Lib.hid hS
  clear hS
  have hres : Hid (soundP K ⟨5, x, y, e, f, c, ags, at_⟩ = false) := Lib.hid (by first | (simp [soundP, *]; done) | (simp [soundP, *]; assumption))
  clear hq0
  go_wp2_with fail
  go_ret
  exact ⟨by rw [hres.out]; rfl, hS1.out.rs.bl⟩
set_option maxRecDepth 100000 in
set_option maxHeartbeats 2000000 in
theorem sound_k6 (w : World) (m : Nat) (K : List UInt8 → Nat) (hK : KMap w m K) (x y : List UInt8) (e f : Ex) (c : Cn) (ags : List Ag) (at_ : Nat) (pe pf pc : Option Addr) (Aa At Al : Option Addr) (na ca nt ct nl cl : Nat)
  (H : HdAt w Evr ⟨6, x, y, e, f, c, ags, at_⟩ (.pointer pe) (.pointer pf) (.pointer pc) (.slice Aa na ca)) :
  Calls Try.prog 26 #[.agg #[.map (some m)], .agg (stC ⟨6, x, y, e, f, c, ags, at_⟩ pe pf pc Aa At Al na ca nt ct nl cl)] w fun e' w' => e' = .returned (.bool (soundP K ⟨6, x, y, e, f, c, ags, at_⟩)) ∧ Below w.heap.size w w' := by
 have hR := Rsv.start hK
 obtain ⟨w1, hw1⟩ : ∃ y, y = w.alloc (.cells #[.map (some m)] 66) := ⟨_, rfl⟩
 rw [← hw1] at hR
 obtain ⟨w2, hw2⟩ : ∃ z, z = w1.alloc (.cells (stC ⟨6, x, y, e, f, c, ags, at_⟩ pe pf pc Aa At Al na ca nt ct nl cl) 38) := ⟨_, rfl⟩
 have hs2 := Holds.new w1 38 (stC ⟨6, x, y, e, f, c, ags, at_⟩ pe pf pc Aa At Al na ca nt ct nl cl)
 rw [← hw2] at hs2
 have hb2 : Below w1.heap.size w1 w2 := by rw [hw2]; exact below_new w1 _
 have hb1 : Below w.heap.size w w1 := by rw [hw1]; exact below_new w _
 have hsz : w1.heap.size = w.heap.size + 1 := by rw [hw1]; simp
 obtain ⟨r, hr⟩ : ∃ y, y = w.heap.size := ⟨_, rfl⟩
 rw [hsz, ← hr] at hs2
 rw [← hr] at hR
 have hx := H.x
 have hy := H.y
 simp only at hx hy
 have hS : Snd m K ⟨6, x, y, e, f, c, ags, at_⟩ pe pf pc Aa na ca (stC ⟨6, x, y, e, f, c, ags, at_⟩ pe pf pc Aa At Al na ca nt ct nl cl) r (r + 1) w w2 := ⟨hR.below hb2, hs2, (H.below hb1).below hb2⟩
 have hfold : Hid ((w.alloc (.cells #[.map (some m)] 66)).alloc (.cells (stC ⟨6, x, y, e, f, c, ags, at_⟩ pe pf pc Aa At Al na ca nt ct nl cl) 38) = w2) := Lib.hid (by rw [hw2, hw1])
 have hrB := Lib.hid hr.symm
 clear hw1 hw2 hs2 hb2 hb1 hsz hr hR H hK
 unfold stC at hfold
 unfold stC
 go_enter Try.func26, Try.ntmps26
 go_upto_region 1 with (fail)
 simp only at hfold
 rw [show (((6 : Nat) : Int)) = 6 from rfl] at hfold
 rw [hrB.out, hfold.out]
 clear hfold
 obtain ⟨qr, qrl, qsl, q0, q1, q2, q3, q4, q5, q6⟩ := hS.facts
 simp only at q0 q1 q2
 have hS1 := Lib.hid hS
 clear hS
 go_wp2_with fail
 refine (pointer_any _ m K hS1.out.rs.km x hx).mono ?_
 rintro e1 w3 ⟨rfl, hb⟩
 have hS := hS1.out.below hb
 clear hb hS1 q0 q1 q2 q3 q4 q5 q6 qr qrl qsl
 cases hp0 : (K x == 2) with
 | true =>
  have hq0 := hp0
  try simp at hq0
  clear hp0
  obtain ⟨qr, qrl, qsl, q0, q1, q2, q3, q4, q5, q6⟩ := hS.facts
  simp only at q0 q1 q2
  have hS1 := Lib.hid hS
  clear hS
  have hres : Hid (soundP K ⟨6, x, y, e, f, c, ags, at_⟩ = false) := Lib.hid (by first | (simp [soundP, *]; done) | (simp [soundP, *]; assumption))
  clear hq0
  go_wp2_with fail
  go_ret
  exact ⟨by rw [hres.out]; rfl, hS1.out.rs.bl⟩
 | false =>
  have hq0 := hp0
  try simp at hq0
  clear hp0
  obtain ⟨qr, qrl, qsl, q0, q1, q2, q3, q4, q5, q6⟩ := hS.facts
  simp only at q0 q1 q2
  have hS1 := Lib.hid hS
  clear hS
  go_wp2_with fail
  refine (global_any _ m K hS1.out.rs.km y hy).mono ?_
  rintro e1 w4 ⟨rfl, hb⟩
  have hS := hS1.out.below hb
  clear hb hS1 q0 q1 q2 q3 q4 q5 q6 qr qrl qsl
  cases hp1 : (K y == 0) with
  | true =>
   have hq1 := hp1
   try simp at hq1
   clear hp1
   obtain ⟨qr, qrl, qsl, q0, q1, q2, q3, q4, q5, q6⟩ := hS.facts
   simp only at q0 q1 q2
   have hS1 := Lib.hid hS
   clear hS
   have hES := ExsAt.one 34 hS1.out.hd.e
   simp only at hES
   obtain ⟨wl, hwl⟩ : ∃ z, z = World.alloc w4 (.cells #[.pointer pe] 34) := ⟨_, rfl⟩
   rw [← hwl] at hES
   have hS := hS1.out.below (by rw [hwl]; exact below_new _ _ : Below (World.heap w4).size w4 wl)
   have hS2 := Lib.hid hS
   have hES2 := Lib.hid hES
   have hwl2 := Lib.hid hwl.symm
   clear hS hES hwl
   go_wp2_with fail
   rw [hwl2.out]
   refine (free_any wl m K hS2.out.rs.km [e] _ 1 (by simp) hES2.out).mono ?_
   rintro e1 w5 ⟨rfl, hb⟩
   have hS := hS2.out.below hb
   have hfe : Hid ([e].all (freeP K) = freeP K e) := Lib.hid (by simp)
   rw [hfe.out]
   clear hb hS1 hS2 hES2 hwl2 hfe q0 q1 q2 q3 q4 q5 q6 qr qrl qsl
   cases hp2 : freeP K e with
   | true =>
    have hq2 := hp2
    try simp at hq2
    clear hp2
    obtain ⟨qr, qrl, qsl, q0, q1, q2, q3, q4, q5, q6⟩ := hS.facts
    simp only at q0 q1 q2
    have hS1 := Lib.hid hS
    clear hS
    have hres : Hid (soundP K ⟨6, x, y, e, f, c, ags, at_⟩ = true) := Lib.hid (by first | (simp [soundP, *]; done) | (simp [soundP, *]; assumption))
    clear hq0 hq1 hq2
    go_wp2_with fail
    go_ret
    exact ⟨by rw [hres.out]; rfl, hS1.out.rs.bl⟩
   | false =>
    have hq2 := hp2
    try simp at hq2
    clear hp2
    obtain ⟨qr, qrl, qsl, q0, q1, q2, q3, q4, q5, q6⟩ := hS.facts
    simp only at q0 q1 q2
    have hS1 := Lib.hid hS
    clear hS
    have hres : Hid (soundP K ⟨6, x, y, e, f, c, ags, at_⟩ = false) := Lib.hid (by first | (simp [soundP, *]; done) | (simp [soundP, *]; assumption))
    clear hq0 hq1 hq2
    go_wp2_with fail
    go_ret
    exact ⟨by rw [hres.out]; rfl, hS1.out.rs.bl⟩
  | false =>
   have hq1 := hp1
   try simp at hq1
   clear hp1
   obtain ⟨qr, qrl, qsl, q0, q1, q2, q3, q4, q5, q6⟩ := hS.facts
   simp only at q0 q1 q2
   have hS1 := Lib.hid hS
   clear hS
   have hres : Hid (soundP K ⟨6, x, y, e, f, c, ags, at_⟩ = false) := Lib.hid (by first | (simp [soundP, *]; done) | (simp [soundP, *]; assumption))
   clear hq0 hq1
   go_wp2_with fail
   go_ret
   exact ⟨by rw [hres.out]; rfl, hS1.out.rs.bl⟩
set_option maxRecDepth 100000 in
set_option maxHeartbeats 2000000 in
theorem sound_k7 (w : World) (m : Nat) (K : List UInt8 → Nat) (hK : KMap w m K) (x y : List UInt8) (e f : Ex) (c : Cn) (ags : List Ag) (at_ : Nat) (pe pf pc : Option Addr) (Aa At Al : Option Addr) (na ca nt ct nl cl : Nat)
  (H : HdAt w Evr ⟨7, x, y, e, f, c, ags, at_⟩ (.pointer pe) (.pointer pf) (.pointer pc) (.slice Aa na ca)) :
  Calls Try.prog 26 #[.agg #[.map (some m)], .agg (stC ⟨7, x, y, e, f, c, ags, at_⟩ pe pf pc Aa At Al na ca nt ct nl cl)] w fun e' w' => e' = .returned (.bool (soundP K ⟨7, x, y, e, f, c, ags, at_⟩)) ∧ Below w.heap.size w w' := by
 have hR := Rsv.start hK
 obtain ⟨w1, hw1⟩ : ∃ y, y = w.alloc (.cells #[.map (some m)] 66) := ⟨_, rfl⟩
 rw [← hw1] at hR
 obtain ⟨w2, hw2⟩ : ∃ z, z = w1.alloc (.cells (stC ⟨7, x, y, e, f, c, ags, at_⟩ pe pf pc Aa At Al na ca nt ct nl cl) 38) := ⟨_, rfl⟩
 have hs2 := Holds.new w1 38 (stC ⟨7, x, y, e, f, c, ags, at_⟩ pe pf pc Aa At Al na ca nt ct nl cl)
 rw [← hw2] at hs2
 have hb2 : Below w1.heap.size w1 w2 := by rw [hw2]; exact below_new w1 _
 have hb1 : Below w.heap.size w w1 := by rw [hw1]; exact below_new w _
 have hsz : w1.heap.size = w.heap.size + 1 := by rw [hw1]; simp
 obtain ⟨r, hr⟩ : ∃ y, y = w.heap.size := ⟨_, rfl⟩
 rw [hsz, ← hr] at hs2
 rw [← hr] at hR
 have hx := H.x
 have hy := H.y
 simp only at hx hy
 have hS : Snd m K ⟨7, x, y, e, f, c, ags, at_⟩ pe pf pc Aa na ca (stC ⟨7, x, y, e, f, c, ags, at_⟩ pe pf pc Aa At Al na ca nt ct nl cl) r (r + 1) w w2 := ⟨hR.below hb2, hs2, (H.below hb1).below hb2⟩
 have hfold : Hid ((w.alloc (.cells #[.map (some m)] 66)).alloc (.cells (stC ⟨7, x, y, e, f, c, ags, at_⟩ pe pf pc Aa At Al na ca nt ct nl cl) 38) = w2) := Lib.hid (by rw [hw2, hw1])
 have hrB := Lib.hid hr.symm
 clear hw1 hw2 hs2 hb2 hb1 hsz hr hR H hK
 unfold stC at hfold
 unfold stC
 go_enter Try.func26, Try.ntmps26
 go_upto_region 1 with (fail)
 simp only at hfold
 rw [show (((7 : Nat) : Int)) = 7 from rfl] at hfold
 rw [hrB.out, hfold.out]
 clear hfold
 obtain ⟨qr, qrl, qsl, q0, q1, q2, q3, q4, q5, q6⟩ := hS.facts
 simp only at q0 q1 q2
 have hS1 := Lib.hid hS
 clear hS
 go_wp2_with fail
 refine (global_any _ m K hS1.out.rs.km y hy).mono ?_
 rintro e1 w3 ⟨rfl, hb⟩
 have hS := hS1.out.below hb
 clear hb hS1 q0 q1 q2 q3 q4 q5 q6 qr qrl qsl
 cases hp0 : (K y == 0) with
 | true =>
  have hq0 := hp0
  try simp at hq0
  clear hp0
  obtain ⟨qr, qrl, qsl, q0, q1, q2, q3, q4, q5, q6⟩ := hS.facts
  simp only at q0 q1 q2
  have hS1 := Lib.hid hS
  clear hS
  have hES := ExsAt.two 34 hS1.out.hd.e hS1.out.hd.f
  simp only at hES
  obtain ⟨wl, hwl⟩ : ∃ z, z = World.alloc w3 (.cells #[.pointer pe, .pointer pf] 34) := ⟨_, rfl⟩
  rw [← hwl] at hES
  have hS := hS1.out.below (by rw [hwl]; exact below_new _ _ : Below (World.heap w3).size w3 wl)
  have hS2 := Lib.hid hS
  have hES2 := Lib.hid hES
  have hwl2 := Lib.hid hwl.symm
  clear hS hES hwl
  go_wp2_with fail
  rw [hwl2.out]
  refine (free_any wl m K hS2.out.rs.km [e, f] _ 2 (by simp) hES2.out).mono ?_
  rintro e1 w4 ⟨rfl, hb⟩
  have hS := hS2.out.below hb
  have hfe : Hid ([e, f].all (freeP K) = (freeP K e && freeP K f)) := Lib.hid (by simp)
  rw [hfe.out]
  clear hb hS1 hS2 hES2 hwl2 hfe q0 q1 q2 q3 q4 q5 q6 qr qrl qsl
  cases hp1 : (freeP K e && freeP K f) with
  | true =>
   have hq1 := hp1
   try simp at hq1
   clear hp1
   obtain ⟨qr, qrl, qsl, q0, q1, q2, q3, q4, q5, q6⟩ := hS.facts
   simp only at q0 q1 q2
   have hS1 := Lib.hid hS
   clear hS
   have hres : Hid (soundP K ⟨7, x, y, e, f, c, ags, at_⟩ = true) := Lib.hid (by first | (simp [soundP, *]; done) | (simp [soundP, *]; assumption))
   clear hq0 hq1
   go_wp2_with fail
   go_ret
   exact ⟨by rw [hres.out]; rfl, hS1.out.rs.bl⟩
  | false =>
   have hq1 := hp1
   try simp at hq1
   clear hp1
   obtain ⟨qr, qrl, qsl, q0, q1, q2, q3, q4, q5, q6⟩ := hS.facts
   simp only at q0 q1 q2
   have hS1 := Lib.hid hS
   clear hS
   have hres : Hid (soundP K ⟨7, x, y, e, f, c, ags, at_⟩ = false) := Lib.hid (by first | (simp [soundP, *]; done) | (simp [soundP, *]; assumption))
   clear hq0 hq1
   go_wp2_with fail
   go_ret
   exact ⟨by rw [hres.out]; rfl, hS1.out.rs.bl⟩
 | false =>
  have hq0 := hp0
  try simp at hq0
  clear hp0
  obtain ⟨qr, qrl, qsl, q0, q1, q2, q3, q4, q5, q6⟩ := hS.facts
  simp only at q0 q1 q2
  have hS1 := Lib.hid hS
  clear hS
  have hres : Hid (soundP K ⟨7, x, y, e, f, c, ags, at_⟩ = false) := Lib.hid (by first | (simp [soundP, *]; done) | (simp [soundP, *]; assumption))
  clear hq0
  go_wp2_with fail
  go_ret
  exact ⟨by rw [hres.out]; rfl, hS1.out.rs.bl⟩
set_option maxRecDepth 100000 in
set_option maxHeartbeats 2000000 in
theorem sound_k8 (w : World) (m : Nat) (K : List UInt8 → Nat) (hK : KMap w m K) (x y : List UInt8) (e f : Ex) (c : Cn) (ags : List Ag) (at_ : Nat) (pe pf pc : Option Addr) (Aa At Al : Option Addr) (na ca nt ct nl cl : Nat)
  (H : HdAt w Evr ⟨8, x, y, e, f, c, ags, at_⟩ (.pointer pe) (.pointer pf) (.pointer pc) (.slice Aa na ca)) :
  Calls Try.prog 26 #[.agg #[.map (some m)], .agg (stC ⟨8, x, y, e, f, c, ags, at_⟩ pe pf pc Aa At Al na ca nt ct nl cl)] w fun e' w' => e' = .returned (.bool (soundP K ⟨8, x, y, e, f, c, ags, at_⟩)) ∧ Below w.heap.size w w' := by
 have hR := Rsv.start hK
 obtain ⟨w1, hw1⟩ : ∃ y, y = w.alloc (.cells #[.map (some m)] 66) := ⟨_, rfl⟩
 rw [← hw1] at hR
 obtain ⟨w2, hw2⟩ : ∃ z, z = w1.alloc (.cells (stC ⟨8, x, y, e, f, c, ags, at_⟩ pe pf pc Aa At Al na ca nt ct nl cl) 38) := ⟨_, rfl⟩
 have hs2 := Holds.new w1 38 (stC ⟨8, x, y, e, f, c, ags, at_⟩ pe pf pc Aa At Al na ca nt ct nl cl)
 rw [← hw2] at hs2
 have hb2 : Below w1.heap.size w1 w2 := by rw [hw2]; exact below_new w1 _
 have hb1 : Below w.heap.size w w1 := by rw [hw1]; exact below_new w _
 have hsz : w1.heap.size = w.heap.size + 1 := by rw [hw1]; simp
 obtain ⟨r, hr⟩ : ∃ y, y = w.heap.size := ⟨_, rfl⟩
 rw [hsz, ← hr] at hs2
 rw [← hr] at hR
 have hx := H.x
 have hy := H.y
 simp only at hx hy
 have hS : Snd m K ⟨8, x, y, e, f, c, ags, at_⟩ pe pf pc Aa na ca (stC ⟨8, x, y, e, f, c, ags, at_⟩ pe pf pc Aa At Al na ca nt ct nl cl) r (r + 1) w w2 := ⟨hR.below hb2, hs2, (H.below hb1).below hb2⟩
 have hfold : Hid ((w.alloc (.cells #[.map (some m)] 66)).alloc (.cells (stC ⟨8, x, y, e, f, c, ags, at_⟩ pe pf pc Aa At Al na ca nt ct nl cl) 38) = w2) := Lib.hid (by rw [hw2, hw1])
 have hrB := Lib.hid hr.symm
 clear hw1 hw2 hs2 hb2 hb1 hsz hr hR H hK
 unfold stC at hfold
 unfold stC
 go_enter Try.func26, Try.ntmps26
 go_upto_region 1 with (fail)
 simp only at hfold
 rw [show (((8 : Nat) : Int)) = 8 from rfl] at hfold
 rw [hrB.out, hfold.out]
 clear hfold
 obtain ⟨qr, qrl, qsl, q0, q1, q2, q3, q4, q5, q6⟩ := hS.facts
 simp only at q0 q1 q2
 have hS1 := Lib.hid hS
 clear hS
 by_cases hxe : x = []
 ·have hxs : strV x = ⟨#[]⟩ := by rw [hxe]; rfl
  rw [hxs] at q1
  go_wp2_with fail
  refine (global_any _ m K hS1.out.rs.km y hy).mono ?_
  rintro e1 w3 ⟨rfl, hb⟩
  have hS := hS1.out.below hb
  clear hb hS1 q0 q1 q2 q3 q4 q5 q6 qr qrl qsl
  cases hp0 : (K y == 0) with
  | true =>
   have hq0 := hp0
   try simp at hq0
   clear hp0
   obtain ⟨qr, qrl, qsl, q0, q1, q2, q3, q4, q5, q6⟩ := hS.facts
   simp only at q0 q1 q2
   have hS1 := Lib.hid hS
   clear hS
   go_wp2_with fail
   refine (sargs_any _ m K hS1.out.rs.km ags _ hS1.out.hd.a).mono ?_
   rintro e1 w4 ⟨rfl, hb⟩
   have hS := hS1.out.below hb
   clear hb hS1 q0 q1 q2 q3 q4 q5 q6 qr qrl qsl
   cases hp1 : (ags.all (argP K)) with
   | true =>
    have hq1 := hp1
    try simp at hq1
    clear hp1
    obtain ⟨qr, qrl, qsl, q0, q1, q2, q3, q4, q5, q6⟩ := hS.facts
    simp only at q0 q1 q2
    have hS1 := Lib.hid hS
    clear hS
    have hres : Hid (soundP K ⟨8, x, y, e, f, c, ags, at_⟩ = true) := Lib.hid (by first | (simp [soundP, *]; done) | (simp [soundP, *]; assumption))
    clear hxe hq0 hq1
    go_wp2_with fail
    go_ret
    exact ⟨by rw [hres.out]; rfl, hS1.out.rs.bl⟩
   | false =>
    have hq1 := hp1
    try simp at hq1
    clear hp1
    obtain ⟨qr, qrl, qsl, q0, q1, q2, q3, q4, q5, q6⟩ := hS.facts
    simp only at q0 q1 q2
    have hS1 := Lib.hid hS
    clear hS
    have hres : Hid (soundP K ⟨8, x, y, e, f, c, ags, at_⟩ = false) := Lib.hid (by first | (simp [soundP, *]; done) | (simp [soundP, *]; assumption))
    clear hxe hq0 hq1
    go_wp2_with fail
    go_ret
    exact ⟨by rw [hres.out]; rfl, hS1.out.rs.bl⟩
  | false =>
   have hq0 := hp0
   try simp at hq0
   clear hp0
   obtain ⟨qr, qrl, qsl, q0, q1, q2, q3, q4, q5, q6⟩ := hS.facts
   simp only at q0 q1 q2
   have hS1 := Lib.hid hS
   clear hS
   have hres : Hid (soundP K ⟨8, x, y, e, f, c, ags, at_⟩ = false) := Lib.hid (by first | (simp [soundP, *]; done) | (simp [soundP, *]; assumption))
   clear hxe hq0
   go_wp2_with fail
   go_ret
   exact ⟨by rw [hres.out]; rfl, hS1.out.rs.bl⟩
 ·have hxs : ¬ (strV x).toList = [] := by rw [strV_toList]; exact hxe
  go_wp2_with fail
  refine (pointer_any _ m K hS1.out.rs.km x hx).mono ?_
  rintro e1 w3 ⟨rfl, hb⟩
  have hS := hS1.out.below hb
  clear hb hS1 q0 q1 q2 q3 q4 q5 q6 qr qrl qsl
  cases hp0 : (K x == 2) with
  | true =>
   have hq0 := hp0
   try simp at hq0
   clear hp0
   obtain ⟨qr, qrl, qsl, q0, q1, q2, q3, q4, q5, q6⟩ := hS.facts
   simp only at q0 q1 q2
   have hS1 := Lib.hid hS
   clear hS
   have hres : Hid (soundP K ⟨8, x, y, e, f, c, ags, at_⟩ = false) := Lib.hid (by first | (simp [soundP, *]; done) | (simp [soundP, *]; assumption))
   clear hxe hq0
   go_wp2_with fail
   go_ret
   exact ⟨by rw [hres.out]; rfl, hS1.out.rs.bl⟩
  | false =>
   have hq0 := hp0
   try simp at hq0
   clear hp0
   obtain ⟨qr, qrl, qsl, q0, q1, q2, q3, q4, q5, q6⟩ := hS.facts
   simp only at q0 q1 q2
   have hS1 := Lib.hid hS
   clear hS
   go_wp2_with fail
   refine (global_any _ m K hS1.out.rs.km y hy).mono ?_
   rintro e1 w4 ⟨rfl, hb⟩
   have hS := hS1.out.below hb
   clear hb hS1 q0 q1 q2 q3 q4 q5 q6 qr qrl qsl
   cases hp1 : (K y == 0) with
   | true =>
    have hq1 := hp1
    try simp at hq1
    clear hp1
    obtain ⟨qr, qrl, qsl, q0, q1, q2, q3, q4, q5, q6⟩ := hS.facts
    simp only at q0 q1 q2
    have hS1 := Lib.hid hS
    clear hS
    go_wp2_with fail
    refine (sargs_any _ m K hS1.out.rs.km ags _ hS1.out.hd.a).mono ?_
    rintro e1 w5 ⟨rfl, hb⟩
    have hS := hS1.out.below hb
    clear hb hS1 q0 q1 q2 q3 q4 q5 q6 qr qrl qsl
    cases hp2 : (ags.all (argP K)) with
    | true =>
     have hq2 := hp2
     try simp at hq2
     clear hp2
     obtain ⟨qr, qrl, qsl, q0, q1, q2, q3, q4, q5, q6⟩ := hS.facts
     simp only at q0 q1 q2
     have hS1 := Lib.hid hS
     clear hS
     have hres : Hid (soundP K ⟨8, x, y, e, f, c, ags, at_⟩ = true) := Lib.hid (by first | (simp [soundP, *]; done) | (simp [soundP, *]; assumption))
     clear hxe hq0 hq1 hq2
     go_wp2_with fail
     go_ret
     exact ⟨by rw [hres.out]; rfl, hS1.out.rs.bl⟩
    | false =>
     have hq2 := hp2
     try simp at hq2
     clear hp2
     obtain ⟨qr, qrl, qsl, q0, q1, q2, q3, q4, q5, q6⟩ := hS.facts
     simp only at q0 q1 q2
     have hS1 := Lib.hid hS
     clear hS
     have hres : Hid (soundP K ⟨8, x, y, e, f, c, ags, at_⟩ = false) := Lib.hid (by first | (simp [soundP, *]; done) | (simp [soundP, *]; assumption))
     clear hxe hq0 hq1 hq2
     go_wp2_with fail
     go_ret
     exact ⟨by rw [hres.out]; rfl, hS1.out.rs.bl⟩
   | false =>
    have hq1 := hp1
    try simp at hq1
    clear hp1
    obtain ⟨qr, qrl, qsl, q0, q1, q2, q3, q4, q5, q6⟩ := hS.facts
    simp only at q0 q1 q2
    have hS1 := Lib.hid hS
    clear hS
    have hres : Hid (soundP K ⟨8, x, y, e, f, c, ags, at_⟩ = false) := Lib.hid (by first | (simp [soundP, *]; done) | (simp [soundP, *]; assumption))
    clear hxe hq0 hq1
    go_wp2_with fail
    go_ret
    exact ⟨by rw [hres.out]; rfl, hS1.out.rs.bl⟩
set_option maxRecDepth 100000 in
set_option maxHeartbeats 2000000 in
theorem sound_k9 (w : World) (m : Nat) (K : List UInt8 → Nat) (hK : KMap w m K) (x y : List UInt8) (e f : Ex) (c : Cn) (ags : List Ag) (at_ : Nat) (pe pf pc : Option Addr) (Aa At Al : Option Addr) (na ca nt ct nl cl : Nat)
  (H : HdAt w Evr ⟨9, x, y, e, f, c, ags, at_⟩ (.pointer pe) (.pointer pf) (.pointer pc) (.slice Aa na ca)) :
  Calls Try.prog 26 #[.agg #[.map (some m)], .agg (stC ⟨9, x, y, e, f, c, ags, at_⟩ pe pf pc Aa At Al na ca nt ct nl cl)] w fun e' w' => e' = .returned (.bool (soundP K ⟨9, x, y, e, f, c, ags, at_⟩)) ∧ Below w.heap.size w w' := by
 have hR := Rsv.start hK
 obtain ⟨w1, hw1⟩ : ∃ y, y = w.alloc (.cells #[.map (some m)] 66) := ⟨_, rfl⟩
 rw [← hw1] at hR
 obtain ⟨w2, hw2⟩ : ∃ z, z = w1.alloc (.cells (stC ⟨9, x, y, e, f, c, ags, at_⟩ pe pf pc Aa At Al na ca nt ct nl cl) 38) := ⟨_, rfl⟩
 have hs2 := Holds.new w1 38 (stC ⟨9, x, y, e, f, c, ags, at_⟩ pe pf pc Aa At Al na ca nt ct nl cl)
 rw [← hw2] at hs2
 have hb2 : Below w1.heap.size w1 w2 := by rw [hw2]; exact below_new w1 _
 have hb1 : Below w.heap.size w w1 := by rw [hw1]; exact below_new w _
 have hsz : w1.heap.size = w.heap.size + 1 := by rw [hw1]; simp
 obtain ⟨r, hr⟩ : ∃ y, y = w.heap.size := ⟨_, rfl⟩
 rw [hsz, ← hr] at hs2
 rw [← hr] at hR
 have hx := H.x
 have hy := H.y
 simp only at hx hy
 have hS : Snd m K ⟨9, x, y, e, f, c, ags, at_⟩ pe pf pc Aa na ca (stC ⟨9, x, y, e, f, c, ags, at_⟩ pe pf pc Aa At Al na ca nt ct nl cl) r (r + 1) w w2 := ⟨hR.below hb2, hs2, (H.below hb1).below hb2⟩
 have hfold : Hid ((w.alloc (.cells #[.map (some m)] 66)).alloc (.cells (stC ⟨9, x, y, e, f, c, ags, at_⟩ pe pf pc Aa At Al na ca nt ct nl cl) 38) = w2) := Lib.hid (by rw [hw2, hw1])
 have hrB := Lib.hid hr.symm
 clear hw1 hw2 hs2 hb2 hb1 hsz hr hR H hK
 unfold stC at hfold
 unfold stC
 go_enter Try.func26, Try.ntmps26
 go_upto_region 1 with (fail)
 simp only at hfold
 rw [show (((9 : Nat) : Int)) = 9 from rfl] at hfold
 rw [hrB.out, hfold.out]
 clear hfold
 obtain ⟨qr, qrl, qsl, q0, q1, q2, q3, q4, q5, q6⟩ := hS.facts
 simp only at q0 q1 q2
 have hS1 := Lib.hid hS
 clear hS
 have hES := ExsAt.one 34 hS1.out.hd.e
 simp only at hES
 obtain ⟨wl, hwl⟩ : ∃ z, z = World.alloc w2 (.cells #[.pointer pe] 34) := ⟨_, rfl⟩
 rw [← hwl] at hES
 have hS := hS1.out.below (by rw [hwl]; exact below_new _ _ : Below (World.heap w2).size w2 wl)
 have hS2 := Lib.hid hS
 have hES2 := Lib.hid hES
 have hwl2 := Lib.hid hwl.symm
 clear hS hES hwl
 go_wp2_with fail
 rw [hwl2.out]
 refine (free_any wl m K hS2.out.rs.km [e] _ 1 (by simp) hES2.out).mono ?_
 rintro e1 w3 ⟨rfl, hb⟩
 have hS := hS2.out.below hb
 have hfe : Hid ([e].all (freeP K) = freeP K e) := Lib.hid (by simp)
 rw [hfe.out]
 clear hb hS1 hS2 hES2 hwl2 hfe q0 q1 q2 q3 q4 q5 q6 qr qrl qsl
 cases hp0 : freeP K e with
 | true =>
  have hq0 := hp0
  try simp at hq0
  clear hp0
  obtain ⟨qr, qrl, qsl, q0, q1, q2, q3, q4, q5, q6⟩ := hS.facts
  simp only at q0 q1 q2
  have hS1 := Lib.hid hS
  clear hS
  have hres : Hid (soundP K ⟨9, x, y, e, f, c, ags, at_⟩ = true) := Lib.hid (by first | (simp [soundP, *]; done) | (simp [soundP, *]; assumption))
  clear hq0
  go_wp2_with fail
  go_ret
  exact ⟨by rw [hres.out]; rfl, hS1.out.rs.bl⟩
 | false =>
  have hq0 := hp0
  try simp at hq0
  clear hp0
  obtain ⟨qr, qrl, qsl, q0, q1, q2, q3, q4, q5, q6⟩ := hS.facts
  simp only at q0 q1 q2
  have hS1 := Lib.hid hS
  clear hS
  have hres : Hid (soundP K ⟨9, x, y, e, f, c, ags, at_⟩ = false) := Lib.hid (by first | (simp [soundP, *]; done) | (simp [soundP, *]; assumption))
  clear hq0
  go_wp2_with fail
  go_ret
  exact ⟨by rw [hres.out]; rfl, hS1.out.rs.bl⟩
set_option maxRecDepth 100000 in
set_option maxHeartbeats 2000000 in
theorem sound_k10 (w : World) (m : Nat) (K : List UInt8 → Nat) (hK : KMap w m K) (x y : List UInt8) (e f : Ex) (c : Cn) (ags : List Ag) (at_ : Nat) (pe pf pc : Option Addr) (Aa At Al : Option Addr) (na ca nt ct nl cl : Nat)
  (H : HdAt w Evr ⟨10, x, y, e, f, c, ags, at_⟩ (.pointer pe) (.pointer pf) (.pointer pc) (.slice Aa na ca)) :
  Calls Try.prog 26 #[.agg #[.map (some m)], .agg (stC ⟨10, x, y, e, f, c, ags, at_⟩ pe pf pc Aa At Al na ca nt ct nl cl)] w fun e' w' => e' = .returned (.bool (soundP K ⟨10, x, y, e, f, c, ags, at_⟩)) ∧ Below w.heap.size w w' := by
 have hR := Rsv.start hK
 obtain ⟨w1, hw1⟩ : ∃ y, y = w.alloc (.cells #[.map (some m)] 66) := ⟨_, rfl⟩
 rw [← hw1] at hR
 obtain ⟨w2, hw2⟩ : ∃ z, z = w1.alloc (.cells (stC ⟨10, x, y, e, f, c, ags, at_⟩ pe pf pc Aa At Al na ca nt ct nl cl) 38) := ⟨_, rfl⟩
 have hs2 := Holds.new w1 38 (stC ⟨10, x, y, e, f, c, ags, at_⟩ pe pf pc Aa At Al na ca nt ct nl cl)
 rw [← hw2] at hs2
 have hb2 : Below w1.heap.size w1 w2 := by rw [hw2]; exact below_new w1 _
 have hb1 : Below w.heap.size w w1 := by rw [hw1]; exact below_new w _
 have hsz : w1.heap.size = w.heap.size + 1 := by rw [hw1]; simp
 obtain ⟨r, hr⟩ : ∃ y, y = w.heap.size := ⟨_, rfl⟩
 rw [hsz, ← hr] at hs2
 rw [← hr] at hR
 have hx := H.x
 have hy := H.y
 simp only at hx hy
 have hS : Snd m K ⟨10, x, y, e, f, c, ags, at_⟩ pe pf pc Aa na ca (stC ⟨10, x, y, e, f, c, ags, at_⟩ pe pf pc Aa At Al na ca nt ct nl cl) r (r + 1) w w2 := ⟨hR.below hb2, hs2, (H.below hb1).below hb2⟩
 have hfold : Hid ((w.alloc (.cells #[.map (some m)] 66)).alloc (.cells (stC ⟨10, x, y, e, f, c, ags, at_⟩ pe pf pc Aa At Al na ca nt ct nl cl) 38) = w2) := Lib.hid (by rw [hw2, hw1])
 have hrB := Lib.hid hr.symm
 clear hw1 hw2 hs2 hb2 hb1 hsz hr hR H hK
 unfold stC at hfold
 unfold stC
 go_enter Try.func26, Try.ntmps26
 go_upto_region 1 with (fail)
 simp only at hfold
 rw [show (((10 : Nat) : Int)) = 10 from rfl] at hfold
 rw [hrB.out, hfold.out]
 clear hfold
 obtain ⟨qr, qrl, qsl, q0, q1, q2, q3, q4, q5, q6⟩ := hS.facts
 simp only at q0 q1 q2
 have hS1 := Lib.hid hS
 clear hS
 go_wp2_with fail
 refine (scond_any _ m K hS1.out.rs.km c _ hS1.out.hd.c).mono ?_
 rintro e1 w3 ⟨rfl, hb⟩
 have hS := hS1.out.below hb
 clear hb hS1 q0 q1 q2 q3 q4 q5 q6 qr qrl qsl
 cases hp0 : condP K c with
 | true =>
  have hq0 := hp0
  try simp at hq0
  clear hp0
  obtain ⟨qr, qrl, qsl, q0, q1, q2, q3, q4, q5, q6⟩ := hS.facts
  simp only at q0 q1 q2
  have hS1 := Lib.hid hS
  clear hS
  have hres : Hid (soundP K ⟨10, x, y, e, f, c, ags, at_⟩ = true) := Lib.hid (by first | (simp [soundP, *]; done) | (simp [soundP, *]; assumption))
  clear hq0
  go_wp2_with fail
  go_ret
  exact ⟨by rw [hres.out]; rfl, hS1.out.rs.bl⟩
 | false =>
  have hq0 := hp0
  try simp at hq0
  clear hp0
  obtain ⟨qr, qrl, qsl, q0, q1, q2, q3, q4, q5, q6⟩ := hS.facts
  simp only at q0 q1 q2
  have hS1 := Lib.hid hS
  clear hS
  have hres : Hid (soundP K ⟨10, x, y, e, f, c, ags, at_⟩ = false) := Lib.hid (by first | (simp [soundP, *]; done) | (simp [soundP, *]; assumption))
  clear hq0
  go_wp2_with fail
  go_ret
  exact ⟨by rw [hres.out]; rfl, hS1.out.rs.bl⟩
set_option maxRecDepth 100000 in
set_option maxHeartbeats 2000000 in
theorem sound_k11 (w : World) (m : Nat) (K : List UInt8 → Nat) (hK : KMap w m K) (x y : List UInt8) (e f : Ex) (c : Cn) (ags : List Ag) (at_ : Nat) (pe pf pc : Option Addr) (Aa At Al : Option Addr) (na ca nt ct nl cl : Nat)
  (H : HdAt w Evr ⟨11, x, y, e, f, c, ags, at_⟩ (.pointer pe) (.pointer pf) (.pointer pc) (.slice Aa na ca)) :
  Calls Try.prog 26 #[.agg #[.map (some m)], .agg (stC ⟨11, x, y, e, f, c, ags, at_⟩ pe pf pc Aa At Al na ca nt ct nl cl)] w fun e' w' => e' = .returned (.bool (soundP K ⟨11, x, y, e, f, c, ags, at_⟩)) ∧ Below w.heap.size w w' := by
 have hR := Rsv.start hK
 obtain ⟨w1, hw1⟩ : ∃ y, y = w.alloc (.cells #[.map (some m)] 66) := ⟨_, rfl⟩
 rw [← hw1] at hR
 obtain ⟨w2, hw2⟩ : ∃ z, z = w1.alloc (.cells (stC ⟨11, x, y, e, f, c, ags, at_⟩ pe pf pc Aa At Al na ca nt ct nl cl) 38) := ⟨_, rfl⟩
 have hs2 := Holds.new w1 38 (stC ⟨11, x, y, e, f, c, ags, at_⟩ pe pf pc Aa At Al na ca nt ct nl cl)
 rw [← hw2] at hs2
 have hb2 : Below w1.heap.size w1 w2 := by rw [hw2]; exact below_new w1 _
 have hb1 : Below w.heap.size w w1 := by rw [hw1]; exact below_new w _
 have hsz : w1.heap.size = w.heap.size + 1 := by rw [hw1]; simp
 obtain ⟨r, hr⟩ : ∃ y, y = w.heap.size := ⟨_, rfl⟩
 rw [hsz, ← hr] at hs2
 rw [← hr] at hR
 have hx := H.x
 have hy := H.y
 simp only at hx hy
 have hS : Snd m K ⟨11, x, y, e, f, c, ags, at_⟩ pe pf pc Aa na ca (stC ⟨11, x, y, e, f, c, ags, at_⟩ pe pf pc Aa At Al na ca nt ct nl cl) r (r + 1) w w2 := ⟨hR.below hb2, hs2, (H.below hb1).below hb2⟩
 have hfold : Hid ((w.alloc (.cells #[.map (some m)] 66)).alloc (.cells (stC ⟨11, x, y, e, f, c, ags, at_⟩ pe pf pc Aa At Al na ca nt ct nl cl) 38) = w2) := Lib.hid (by rw [hw2, hw1])
 have hrB := Lib.hid hr.symm
 clear hw1 hw2 hs2 hb2 hb1 hsz hr hR H hK
 unfold stC at hfold
 unfold stC
 go_enter Try.func26, Try.ntmps26
 go_upto_region 1 with (fail)
 simp only at hfold
 rw [show (((11 : Nat) : Int)) = 11 from rfl] at hfold
 rw [hrB.out, hfold.out]
 clear hfold
 obtain ⟨qr, qrl, qsl, q0, q1, q2, q3, q4, q5, q6⟩ := hS.facts
 simp only at q0 q1 q2
 have hS1 := Lib.hid hS
 clear hS
 go_wp2_with fail
 refine (scond_any _ m K hS1.out.rs.km c _ hS1.out.hd.c).mono ?_
 rintro e1 w3 ⟨rfl, hb⟩
 have hS := hS1.out.below hb
 clear hb hS1 q0 q1 q2 q3 q4 q5 q6 qr qrl qsl
 cases hp0 : condP K c with
 | true =>
  have hq0 := hp0
  try simp at hq0
  clear hp0
  obtain ⟨qr, qrl, qsl, q0, q1, q2, q3, q4, q5, q6⟩ := hS.facts
  simp only at q0 q1 q2
  have hS1 := Lib.hid hS
  clear hS
  have hres : Hid (soundP K ⟨11, x, y, e, f, c, ags, at_⟩ = true) := Lib.hid (by first | (simp [soundP, *]; done) | (simp [soundP, *]; assumption))
  clear hq0
  go_wp2_with fail
  go_ret
  exact ⟨by rw [hres.out]; rfl, hS1.out.rs.bl⟩
 | false =>
  have hq0 := hp0
  try simp at hq0
  clear hp0
  obtain ⟨qr, qrl, qsl, q0, q1, q2, q3, q4, q5, q6⟩ := hS.facts
  simp only at q0 q1 q2
  have hS1 := Lib.hid hS
  clear hS
  have hres : Hid (soundP K ⟨11, x, y, e, f, c, ags, at_⟩ = false) := Lib.hid (by first | (simp [soundP, *]; done) | (simp [soundP, *]; assumption))
  clear hq0
  go_wp2_with fail
  go_ret
  exact ⟨by rw [hres.out]; rfl, hS1.out.rs.bl⟩
set_option maxRecDepth 100000 in
set_option maxHeartbeats 2000000 in
theorem sound_k12 (w : World) (m : Nat) (K : List UInt8 → Nat) (hK : KMap w m K) (x y : List UInt8) (e f : Ex) (c : Cn) (ags : List Ag) (at_ : Nat) (pe pf pc : Option Addr) (Aa At Al : Option Addr) (na ca nt ct nl cl : Nat)
  (H : HdAt w Evr ⟨12, x, y, e, f, c, ags, at_⟩ (.pointer pe) (.pointer pf) (.pointer pc) (.slice Aa na ca)) :
  Calls Try.prog 26 #[.agg #[.map (some m)], .agg (stC ⟨12, x, y, e, f, c, ags, at_⟩ pe pf pc Aa At Al na ca nt ct nl cl)] w fun e' w' => e' = .returned (.bool (soundP K ⟨12, x, y, e, f, c, ags, at_⟩)) ∧ Below w.heap.size w w' := by
 have hR := Rsv.start hK
 obtain ⟨w1, hw1⟩ : ∃ y, y = w.alloc (.cells #[.map (some m)] 66) := ⟨_, rfl⟩
 rw [← hw1] at hR
 obtain ⟨w2, hw2⟩ : ∃ z, z = w1.alloc (.cells (stC ⟨12, x, y, e, f, c, ags, at_⟩ pe pf pc Aa At Al na ca nt ct nl cl) 38) := ⟨_, rfl⟩
 have hs2 := Holds.new w1 38 (stC ⟨12, x, y, e, f, c, ags, at_⟩ pe pf pc Aa At Al na ca nt ct nl cl)
 rw [← hw2] at hs2
 have hb2 : Below w1.heap.size w1 w2 := by rw [hw2]; exact below_new w1 _
 have hb1 : Below w.heap.size w w1 := by rw [hw1]; exact below_new w _
 have hsz : w1.heap.size = w.heap.size + 1 := by rw [hw1]; simp
 obtain ⟨r, hr⟩ : ∃ y, y = w.heap.size := ⟨_, rfl⟩
 rw [hsz, ← hr] at hs2
 rw [← hr] at hR
 have hx := H.x
 have hy := H.y
 simp only at hx hy
 have hS : Snd m K ⟨12, x, y, e, f, c, ags, at_⟩ pe pf pc Aa na ca (stC ⟨12, x, y, e, f, c, ags, at_⟩ pe pf pc Aa At Al na ca nt ct nl cl) r (r + 1) w w2 := ⟨hR.below hb2, hs2, (H.below hb1).below hb2⟩
 have hfold : Hid ((w.alloc (.cells #[.map (some m)] 66)).alloc (.cells (stC ⟨12, x, y, e, f, c, ags, at_⟩ pe pf pc Aa At Al na ca nt ct nl cl) 38) = w2) := Lib.hid (by rw [hw2, hw1])
 have hrB := Lib.hid hr.symm
 clear hw1 hw2 hs2 hb2 hb1 hsz hr hR H hK
 unfold stC at hfold
 unfold stC
 go_enter Try.func26, Try.ntmps26
 go_upto_region 1 with (fail)
 simp only at hfold
 rw [show (((12 : Nat) : Int)) = 12 from rfl] at hfold
 rw [hrB.out, hfold.out]
 clear hfold
 obtain ⟨qr, qrl, qsl, q0, q1, q2, q3, q4, q5, q6⟩ := hS.facts
 simp only at q0 q1 q2
 have hS1 := Lib.hid hS
 clear hS
 go_wp2_with fail
 refine (scond_any _ m K hS1.out.rs.km c _ hS1.out.hd.c).mono ?_
 rintro e1 w3 ⟨rfl, hb⟩
 have hS := hS1.out.below hb
 clear hb hS1 q0 q1 q2 q3 q4 q5 q6 qr qrl qsl
 cases hp0 : condP K c with
 | true =>
  have hq0 := hp0
  try simp at hq0
  clear hp0
  obtain ⟨qr, qrl, qsl, q0, q1, q2, q3, q4, q5, q6⟩ := hS.facts
  simp only at q0 q1 q2
  have hS1 := Lib.hid hS
  clear hS
  have hres : Hid (soundP K ⟨12, x, y, e, f, c, ags, at_⟩ = true) := Lib.hid (by first | (simp [soundP, *]; done) | (simp [soundP, *]; assumption))
  clear hq0
  go_wp2_with fail
  go_ret
  exact ⟨by rw [hres.out]; rfl, hS1.out.rs.bl⟩
 | false =>
  have hq0 := hp0
  try simp at hq0
  clear hp0
  obtain ⟨qr, qrl, qsl, q0, q1, q2, q3, q4, q5, q6⟩ := hS.facts
  simp only at q0 q1 q2
  have hS1 := Lib.hid hS
  clear hS
  have hres : Hid (soundP K ⟨12, x, y, e, f, c, ags, at_⟩ = false) := Lib.hid (by first | (simp [soundP, *]; done) | (simp [soundP, *]; assumption))
  clear hq0
  go_wp2_with fail
  go_ret
  exact ⟨by rw [hres.out]; rfl, hS1.out.rs.bl⟩
end Go.Proofs.Ytpndglghpojjkaa
/- Package names: a visitor's walk over statements, with whatever function is handed each. -/
namespace Go.Proofs.Ytpndglghpojjkaa
open Go.RowKit Go.Deep

/-- How deep statements lie in one another. -/
def Sl.dep : Sl → Nat
 | .nil => 0
 | .cons _ t e r => max (max (t.dep + 1) (e.dep + 1)) r.dep
/-- A function that is handed statements until it says no. -/
def vis {σ : Type} (d : σ → Hd → σ × Bool) : σ → Sl → σ × Bool
 | s, .nil => (s, true)
 | s, .cons h t e r => if (d s h).2 then (if (vis d (d s h).1 t).2 then (if (vis d (vis d (d s h).1 t).1 e).2 then vis d (vis d (vis d (d s h).1 t).1 e).1 r else ((vis d (vis d (d s h).1 t).1 e).1, false)) else ((vis d (d s h).1 t).1, false)) else ((d s h).1, false)
/-- A function value that is handed statements: it turns blocks of M alone. -/
structure StSnk (k : Nat) (first cap : Array Value) (M : List (Option Nat)) {σ : Type} (I : σ → World → Prop) (d : σ → Hd → σ × Bool) : Prop where
 ent : ∀ args w, (callFunc k args).run Try.prog w = .ok (.enter k args) w
 call : ∀ s h w pe pf pc Aa At Al na ca nt ct nl cl, HdAt w (NotOf M) h (.pointer pe) (.pointer pf) (.pointer pc) (.slice Aa na ca) → I s w →
  Calls Try.prog k (first ++ #[.agg (stC h pe pf pc Aa At Al na ca nt ct nl cl)] ++ cap) w fun e w' => e = .returned (.bool (d s h).2) ∧ I (d s h).1 w' ∧ Writes M w w'
 keep : ∀ s w w', I s w → Below w.heap.size w w' → I s w'
 low : ∀ s w g, I s w → some g ∈ M → g < w.heap.size
/-- What is left of statements from the k-th on. -/
structure RestAt (w : World) (S : Nat → Prop) (A : Option Addr) (k : Nat) (l : Sl) (us : List Value) : Prop where
 cs : SlCells w S l us
 row : us ≠ [] → ∃ b off, A = some ⟨b, off, none⟩ ∧ S b ∧ ∀ j u, us[j]? = some u → w.cell? ⟨b, off + (k * 10 + j), none⟩ = some u
theorem lt_of_cell {w : World} {b o : Nat} {v : Value} (h : w.cell? ⟨b, o, none⟩ = some v) : b < w.heap.size := by
 rcases Nat.lt_or_ge b w.heap.size with h1 | h1
 ·exact h1
 ·simp [World.cell?, Array.getElem?_eq_none h1] at h
theorem CnAt.vp {w : World} {S : Nat → Prop} {e : Cn} {v : Value} (h : CnAt w S e v) : ∃ p, v = .pointer p := by
 cases e with
 | nil => exact ⟨_, h⟩
 | mk => obtain ⟨g, _, _, _, _, e, _⟩ := h; exact ⟨_, e⟩
theorem SlAt.wr {w w' : World} {M : List (Option Nat)} {l : Sl} {v : Value} (h : SlAt w (NotOf M) l v) (hW : Writes M w w') : SlAt w' (NotOf M) l v := h.keep fun x hx hS => hW.block x hx hS
section
variable {w w' : World} {S : Nat → Prop} {A : Option Addr} {k : Nat} {l t e r : Sl} {h : Hd} {us : List Value} {M : List (Option Nat)} {v : Value}
theorem RestAt.wr (H : RestAt w (NotOf M) A k l us) (hW : Writes M w w') : RestAt w' (NotOf M) A k l us := by
 refine ⟨H.cs.keep fun x hx hS => hW.block x hx hS, fun hne => ?_⟩
 obtain ⟨b, off, e, hS, hc⟩ := H.row hne
 refine ⟨b, off, e, hS, fun j u hu => ?_⟩
 have h1 := hc j u hu
 have hb : b < w.heap.size := lt_of_cell h1
 rw [← h1]
 exact World.cell?_of_block (hW.block b hb hS)
theorem SlAt.rest (h : SlAt w S l v) : ∃ A c us, v = .slice A l.len c ∧ l.len ≤ 100000 ∧ l.len ≤ c ∧ RestAt w S A 0 l us := by
 obtain ⟨A, c, us, e, h1, h2, hr, hc⟩ := h
 exact ⟨A, c, us, e, h1, h2, hc, fun hne => by
  obtain ⟨b, off, e, hS, hc⟩ := hr hne
  exact ⟨b, off, e, hS, fun j u hu => by have := hc j u hu; rw [Nat.zero_mul, Nat.zero_add]; exact this⟩⟩
/-- The next statement's cells, and the rest. -/
theorem RestAt.next (H : RestAt w S A k (.cons h t e r) us) : ∃ b off pe pf pc Aa ca At ct Al cl us', A = some ⟨b, off, none⟩ ∧
  HdAt w S h (.pointer pe) (.pointer pf) (.pointer pc) (.slice Aa h.args.length ca) ∧ SlAt w S t (.slice At t.len ct) ∧ SlAt w S e (.slice Al e.len cl) ∧
  (∀ j (hj : j < 10), w.cell? ⟨b, off + k * 10 + j, none⟩ = some ((stC h pe pf pc Aa At Al h.args.length ca t.len ct e.len cl)[j]'hj)) ∧ RestAt w S A (k + 1) r us' := by
 obtain ⟨hc, hr⟩ := H
 obtain ⟨ve, vf, vc, va, vt, vl, vs', rfl, hh, ht, he, hrest⟩ := hc
 obtain ⟨b, off, hA, hS, hcell⟩ := hr (by simp [Hd.cells])
 obtain ⟨pe, rfl⟩ := hh.e.vp
 obtain ⟨pf, rfl⟩ := hh.f.vp
 obtain ⟨pc, rfl⟩ := hh.c.vp
 obtain ⟨Aa, ca, vas, rfl, a1, a2, a3, a4⟩ := hh.a
 obtain ⟨At, ct, ts, rfl, t1, t2, t3, t4⟩ := ht
 obtain ⟨Al, cl, es, rfl, e1, e2, e3, e4⟩ := he
 refine ⟨b, off, pe, pf, pc, Aa, ca, At, ct, Al, cl, vs', hA, hh, ⟨At, ct, ts, rfl, t1, t2, t3, t4⟩, ⟨Al, cl, es, rfl, e1, e2, e3, e4⟩, fun j hj => ?_, hrest, fun hne => ⟨b, off, hA, hS, fun j u hu => ?_⟩⟩
 ·rw [Nat.add_assoc]
  refine hcell j _ ?_
  rw [List.getElem?_append_left (by simp [Hd.cells]; omega)]
  show (Hd.cells h _ _ _ _ _ _).toList[j]? = _
  rw [Array.getElem?_toList]
  exact Array.getElem?_eq_getElem (xs := stC h pe pf pc Aa At Al h.args.length ca t.len ct e.len cl) hj
 ·have := hcell (10 + j) u (by rw [List.getElem?_append_right (by simp [Hd.cells])]; simpa [Hd.cells] using hu)
  rw [Nat.add_mul, Nat.one_mul, Nat.add_assoc]
  exact this
end
/-- A visitor in block gv while it walks: how the rest stands. -/
structure Vis (m : Option Nat) (M : List (Option Nat)) (gv : Nat) (w0 w : World) : Prop where
 hv : Holds w gv 63 #[.map m]
 gm : NotOf M gv
 wr : Writes M w0 w
theorem Vis.wr_ {m : Option Nat} {M : List (Option Nat)} {gv : Nat} {w0 w w' : World} (h : Vis m M gv w0 w) (hW : Writes M w w') : Vis m M gv w0 w' := ⟨hW.holds h.hv h.gm, h.gm, h.wr.trans hW⟩
theorem Vis.facts {m : Option Nat} {M : List (Option Nat)} {gv : Nat} {w0 w : World} (h : Vis m M gv w0 w) : w.cell? ⟨gv, 0, none⟩ = some (.map m) ∧ gv < w.heap.size := ⟨h.hv.cell 0, h.hv.lt⟩
set_option maxRecDepth 100000 in
set_option maxHeartbeats 4000000 in
theorem vstmts_any {kf : Nat} {first cap : Array Value} {M : List (Option Nat)} {σ : Type} {I : σ → World → Prop} {d : σ → Hd → σ × Bool} (hk : StSnk kf first cap M I d) (m : Option Nat) : ∀ (N : Nat) (l : Sl), l.dep ≤ N → ∀ (w : World) (s : σ) (v : Value), SlAt w (NotOf M) l v → I s w →
  Calls Try.prog 24 #[.agg #[.map m], v, .func (.func kf) first cap] w fun e' w' => e' = .returned (.bool (vis d s l).2) ∧ I (vis d s l).1 w' ∧ Writes M w w' := by
 intro N
 induction N using Nat.strongRecOn with
 | _ N ih =>
 intro l hN w s v hv hI
 obtain ⟨A, c, us, e, hlen, hlc, hR⟩ := hv.rest
 subst e
 obtain ⟨w1, hw1⟩ : ∃ y, y = w.alloc (.cells #[.map m] 63) := ⟨_, rfl⟩
 obtain ⟨gv, hgv⟩ : ∃ y, y = w.heap.size := ⟨_, rfl⟩
 have hb1 : Below w.heap.size w w1 := by rw [hw1]; exact below_new w _
 have hv1 : Holds w1 gv 63 #[.map m] := by rw [hw1, hgv]; exact Holds.new w _ _
 have hgM : NotOf M gv := fun hm => by have := hk.low s w gv hI hm; omega
 have hV1 : Hid (Vis m M gv w w1) := Lib.hid ⟨hv1, hgM, Writes.of_below hb1 M⟩
 have hI1 := Lib.hid (hk.keep s w _ hI hb1)
 have hR1 := Lib.hid (hR.wr (Writes.of_below hb1 M))
 obtain ⟨R, hRe⟩ : ∃ R, R = vis d s l := ⟨_, rfl⟩
 obtain ⟨n, hn⟩ : ∃ y, y = l.len := ⟨_, rfl⟩
 rw [← hRe]
 rw [← hn] at hlen hlc ⊢
 have hfold := Lib.hid hw1.symm
 have hgv' := Lib.hid hgv.symm
 have hih := Lib.hid ih
 have hR0 : Hid (vis d s l = R) := Lib.hid hRe.symm
 have hn0 : Hid (0 + l.len = n) := Lib.hid (by rw [hn]; simp)
 have hN' : Hid (l.dep ≤ N) := Lib.hid hN
 have hent := hk.ent
 clear hw1 hgv hb1 hv1 hI hv hR hRe hn ih hgM hN
 go_enter Try.func24, Try.ntmps24
 go_upto_region 1 with (fail)
 rw [hgv'.out, hfold.out]
 clear hfold hgv'
 go_wp2_with fail
 go_loopw [11] (fun i wl => ∃ (k : Nat) (ls : Sl) (ss : σ) (vs : List Value), k ≤ n ∧ i = .int .i64 k ∧ Hid (RestAt wl (NotOf M) A k ls vs) ∧ Hid (vis d ss ls = R) ∧ Hid (I ss wl) ∧ Hid (Vis m M gv w wl) ∧ Hid (k + ls.len = n) ∧ Hid (ls.dep ≤ N)) (fun i _ => n - (intOf i).toNat)
 case atStart => exact ⟨0, l, s, us, by omega, rfl, hR1, hR0, hI1, hV1, hn0, hN'⟩
 clear hR1 hR0 hI1 hV1 hn0 hN'
 obtain ⟨k, ls, ss, vs, hkn, rfl, hR, hRe, hI, hV, hln, hdp⟩ := hrel
 rename World => wl
 cases ls with
 | nil =>
  have hkn2 : k = n := by have := hln.out; simp [Sl.len] at this; exact this
  have hF : Hid (R = (ss, true)) := Lib.hid (by rw [← hRe.out]; rfl)
  subst hkn2
  clear hR hRe
  go_wp2_with fail
  go_ret
  exact ⟨by rw [hF.out]; rfl, by rw [hF.out]; exact hI.out, hV.out.wr⟩
 | cons h t e r =>
  have hlt : k < n := by have := hln.out; simp only [Sl.len] at this; omega
  obtain ⟨b, off, pe, pf, pc, Aa, ca, At, ct, Al, cl, us', hA, hh, ht, he, hc, hrest⟩ := hR.out.next
  subst hA
  have q0 : wl.cell? ⟨b, off + k * 10, none⟩ = some (.int .i64 h.k) := hc 0 (by decide)
  have q1 : wl.cell? ⟨b, off + k * 10 + 1, none⟩ = some (.string (strV h.x)) := hc 1 (by decide)
  have q2 : wl.cell? ⟨b, off + k * 10 + 2, none⟩ = some (.string (strV h.y)) := hc 2 (by decide)
  have q3 : wl.cell? ⟨b, off + k * 10 + 3, none⟩ = some (.pointer pe) := hc 3 (by decide)
  have q4 : wl.cell? ⟨b, off + k * 10 + 4, none⟩ = some (.pointer pf) := hc 4 (by decide)
  have q5 : wl.cell? ⟨b, off + k * 10 + 5, none⟩ = some (.pointer pc) := hc 5 (by decide)
  have q6 : wl.cell? ⟨b, off + k * 10 + 6, none⟩ = some (.slice Aa h.args.length ca) := hc 6 (by decide)
  have q7 : wl.cell? ⟨b, off + k * 10 + 7, none⟩ = some (.slice At t.len ct) := hc 7 (by decide)
  have q8 : wl.cell? ⟨b, off + k * 10 + 8, none⟩ = some (.slice Al e.len cl) := hc 8 (by decide)
  have q9 : wl.cell? ⟨b, off + k * 10 + 9, none⟩ = some (.int .i64 h.at_) := hc 9 (by decide)
  obtain ⟨qv, qvl⟩ := hV.out.facts
  have hdt : Hid (t.dep < N ∧ e.dep < N ∧ r.dep ≤ N) := Lib.hid (by have := hdp.out; unfold Sl.dep at this; omega)
  have hrl : Hid (k + 1 + r.len = n) := Lib.hid (by have := hln.out; simp only [Sl.len] at this; omega)
  obtain ⟨wn, hwn⟩ : ∃ y, y = wl.alloc (.cells #[.int .i64 h.k, .string (strV h.x), .string (strV h.y), .pointer pe, .pointer pf, .pointer pc, .slice Aa h.args.length ca, .slice At t.len ct, .slice Al e.len cl, .int .i64 h.at_] 38) := ⟨_, rfl⟩
  obtain ⟨gs, hgs⟩ : ∃ y, y = wl.heap.size := ⟨_, rfl⟩
  have hbn : Below wl.heap.size wl wn := by rw [hwn]; exact below_new wl _
  have hHs : Holds wn gs 38 (stC h pe pf pc Aa At Al h.args.length ca t.len ct e.len cl) := by rw [hwn, hgs]; exact Holds.new wl _ _
  have hgsM : NotOf M gs := fun hm => by have := hk.low ss wl gs hI.out hm; omega
  have hWn := Writes.of_below hbn M
  have hVn := Lib.hid (hV.out.wr_ hWn)
  have hIn := Lib.hid (hk.keep ss wl _ hI.out hbn)
  have hhn := Lib.hid (hh.below hbn)
  have htn := Lib.hid (ht.below hbn)
  have hen := Lib.hid (he.below hbn)
  have hrn := Lib.hid (hrest.wr hWn)
  have hHn := Lib.hid hHs
  have hfo := Lib.hid hwn.symm
  have hgs' := Lib.hid hgs.symm
  have hgsM' := Lib.hid hgsM
  have hF : Hid (vis d ss (.cons h t e r) = R) := hRe
  clear hR hRe hI hV hln hdp hc hrest hwn hgs hbn hHs hgsM hWn hh ht he
  go_upto_region 4 with (fail)
  rw [hgs'.out, hfo.out]
  clear hfo hgs' q0 q1 q2 q3 q4 q5 q6 q7 q8 q9 qv qvl
  have q0 : wn.cell? ⟨gs, 0, none⟩ = some (.int .i64 h.k) := hHn.out.cell 0
  have q1 : wn.cell? ⟨gs, 1, none⟩ = some (.string (strV h.x)) := hHn.out.cell 1
  have q2 : wn.cell? ⟨gs, 2, none⟩ = some (.string (strV h.y)) := hHn.out.cell 2
  have q3 : wn.cell? ⟨gs, 3, none⟩ = some (.pointer pe) := hHn.out.cell 3
  have q4 : wn.cell? ⟨gs, 4, none⟩ = some (.pointer pf) := hHn.out.cell 4
  have q5 : wn.cell? ⟨gs, 5, none⟩ = some (.pointer pc) := hHn.out.cell 5
  have q6 : wn.cell? ⟨gs, 6, none⟩ = some (.slice Aa h.args.length ca) := hHn.out.cell 6
  have q7 : wn.cell? ⟨gs, 7, none⟩ = some (.slice At t.len ct) := hHn.out.cell 7
  have q8 : wn.cell? ⟨gs, 8, none⟩ = some (.slice Al e.len cl) := hHn.out.cell 8
  have q9 : wn.cell? ⟨gs, 9, none⟩ = some (.int .i64 h.at_) := hHn.out.cell 9
  have qs := hHn.out.lt
  obtain ⟨qv, qvl⟩ := hVn.out.facts
  go_wp2_with fail
  refine (hk.call ss h wn pe pf pc Aa At Al h.args.length ca t.len ct e.len cl hhn.out hIn.out).mono ?_
  rintro e0 w3 ⟨rfl, hI3, hW3⟩
  have hH3 := hW3.holds hHn.out hgsM'.out
  have hV3 := hVn.out.wr_ hW3
  clear q0 q1 q2 q3 q4 q5 q6 q7 q8 q9 qs qv qvl
  have q7 : w3.cell? ⟨gs, 7, none⟩ = some (.slice At t.len ct) := hH3.cell 7
  have qs := hH3.lt
  obtain ⟨qv, qvl⟩ := hV3.facts
  have hI3 := Lib.hid hI3
  have ht3 := Lib.hid (htn.out.wr hW3)
  have he3 := Lib.hid (hen.out.wr hW3)
  have hr3 := Lib.hid (hrn.out.wr hW3)
  have hH3' := Lib.hid hH3
  have hV3' := Lib.hid hV3
  clear hH3 hV3 hW3 hHn hVn hIn hhn htn hen hrn
  obtain ⟨s1, hs1⟩ : ∃ y, y = (d ss h).1 := ⟨_, rfl⟩
  rw [← hs1] at hI3
  cases hb1 : (d ss h).2 with
  | false =>
   have hR1 : Hid (R = (s1, false)) := Lib.hid (by rw [← hF.out]; unfold vis; rw [if_neg (by rw [hb1]; simp), hs1])
   clear hF hs1 hb1 ht3 he3 hr3 hH3'
   go_wp2_with fail
   go_ret
   exact ⟨by rw [hR1.out]; rfl, by rw [hR1.out]; exact hI3.out, hV3'.out.wr⟩
  | true =>
   have hF1 : Hid ((if (vis d s1 t).2 then (if (vis d (vis d s1 t).1 e).2 then vis d (vis d (vis d s1 t).1 e).1 r else ((vis d (vis d s1 t).1 e).1, false)) else ((vis d s1 t).1, false)) = R) := Lib.hid (by
    rw [← hF.out]
    conv => rhs; unfold vis
    rw [if_pos hb1, hs1])
   replace hs1 := Lib.hid hs1
   clear hF hb1
   go_wp2_with fail
   refine (hih.out t.dep hdt.out.1 t (Nat.le_refl _) w3 s1 _ ht3.out hI3.out).mono ?_
   rintro e1 w4 ⟨rfl, hI4, hW4⟩
   have hH4 := hW4.holds hH3'.out hgsM'.out
   have hV4 := hV3'.out.wr_ hW4
   clear q7 qs qv qvl
   have q8 : w4.cell? ⟨gs, 8, none⟩ = some (.slice Al e.len cl) := hH4.cell 8
   have qs := hH4.lt
   obtain ⟨qv, qvl⟩ := hV4.facts
   have hI4 := Lib.hid hI4
   have he4 := Lib.hid (he3.out.wr hW4)
   have hr4 := Lib.hid (hr3.out.wr hW4)
   have hH4' := Lib.hid hH4
   have hV4' := Lib.hid hV4
   clear hH4 hV4 hW4 hH3' hV3' hI3 ht3 he3 hr3
   obtain ⟨s2, hs2⟩ : ∃ y, y = (vis d s1 t).1 := ⟨_, rfl⟩
   rw [← hs2] at hI4
   cases hb2 : (vis d s1 t).2 with
   | false =>
    have hR1 : Hid (R = (s2, false)) := Lib.hid (by rw [← hF1.out, if_neg (by rw [hb2]; simp), hs2])
    clear hF1 hs2 hb2 he4 hr4 hH4'
    go_wp2_with fail
    go_ret
    exact ⟨by rw [hR1.out]; rfl, by rw [hR1.out]; exact hI4.out, hV4'.out.wr⟩
   | true =>
    have hF2 : Hid ((if (vis d s2 e).2 then vis d (vis d s2 e).1 r else ((vis d s2 e).1, false)) = R) := Lib.hid (by
     rw [← hF1.out, if_pos hb2, hs2])
    replace hs2 := Lib.hid hs2
    clear hF1 hb2
    go_wp2_with fail
    refine (hih.out e.dep hdt.out.2.1 e (Nat.le_refl _) w4 s2 _ he4.out hI4.out).mono ?_
    rintro e2 w5 ⟨rfl, hI5, hW5⟩
    have hV5 := Lib.hid (hV4'.out.wr_ hW5)
    have hI5 := Lib.hid hI5
    have hr5 := Lib.hid (hr4.out.wr hW5)
    clear q8 qs qv qvl hW5 hH4' hV4' hI4 he4 hr4
    obtain ⟨s3, hs3⟩ : ∃ y, y = (vis d s2 e).1 := ⟨_, rfl⟩
    rw [← hs3] at hI5
    cases hb3 : (vis d s2 e).2 with
    | false =>
     have hR1 : Hid (R = (s3, false)) := Lib.hid (by rw [← hF2.out, if_neg (by rw [hb3]; simp), hs3])
     clear hF2 hs3 hb3 hr5
     go_wp2_with fail
     go_ret
     exact ⟨by rw [hR1.out]; rfl, by rw [hR1.out]; exact hI5.out, hV5.out.wr⟩
    | true =>
     have hF3 : Hid (vis d s3 r = R) := Lib.hid (by rw [← hF2.out, if_pos hb3, hs3])
     clear hF2 hb3 hs3
     go_wp2_with fail
     exact ⟨⟨k + 1, r, s3, us', by omega, by simp, hr5, hF3, hI5, hV5, hrl, Lib.hid hdt.out.2.2⟩, by simp [intOf]; omega⟩
end Go.Proofs.Ytpndglghpojjkaa
/- Package names: sound, of whatever kind; what Resolve hands to its visitor; the first statement that does not keep the rules. -/
namespace Go.Proofs.Ytpndglghpojjkaa
open Go.RowKit Go.Deep

theorem sound_any (w : World) (m : Nat) (K : List UInt8 → Nat) (hK : KMap w m K) (h : Hd) (pe pf pc : Option Addr) (Aa At Al : Option Addr) (na ca nt ct nl cl : Nat)
  (H : HdAt w Evr h (.pointer pe) (.pointer pf) (.pointer pc) (.slice Aa na ca)) :
  Calls Try.prog 26 #[.agg #[.map (some m)], .agg (stC h pe pf pc Aa At Al na ca nt ct nl cl)] w fun e' w' => e' = .returned (.bool (soundP K h)) ∧ Below w.heap.size w w' := by
 have hk := H.k
 obtain ⟨k, x, y, e, f, c, ags, at_⟩ := h
 simp only at hk
 match k, hk with
 | 0, _ => exact sound_k0 w m K hK x y e f c ags at_ pe pf pc Aa At Al na ca nt ct nl cl H
 | 1, _ => exact sound_k1 w m K hK x y e f c ags at_ pe pf pc Aa At Al na ca nt ct nl cl H
 | 2, _ => exact sound_k2 w m K hK x y e f c ags at_ pe pf pc Aa At Al na ca nt ct nl cl H
 | 3, _ => exact sound_k3 w m K hK x y e f c ags at_ pe pf pc Aa At Al na ca nt ct nl cl H
 | 4, _ => exact sound_k4 w m K hK x y e f c ags at_ pe pf pc Aa At Al na ca nt ct nl cl H
 | 5, _ => exact sound_k5 w m K hK x y e f c ags at_ pe pf pc Aa At Al na ca nt ct nl cl H
 | 6, _ => exact sound_k6 w m K hK x y e f c ags at_ pe pf pc Aa At Al na ca nt ct nl cl H
 | 7, _ => exact sound_k7 w m K hK x y e f c ags at_ pe pf pc Aa At Al na ca nt ct nl cl H
 | 8, _ => exact sound_k8 w m K hK x y e f c ags at_ pe pf pc Aa At Al na ca nt ct nl cl H
 | 9, _ => exact sound_k9 w m K hK x y e f c ags at_ pe pf pc Aa At Al na ca nt ct nl cl H
 | 10, _ => exact sound_k10 w m K hK x y e f c ags at_ pe pf pc Aa At Al na ca nt ct nl cl H
 | 11, _ => exact sound_k11 w m K hK x y e f c ags at_ pe pf pc Aa At Al na ca nt ct nl cl H
 | 12, _ => exact sound_k12 w m K hK x y e f c ags at_ pe pf pc Aa At Al na ca nt ct nl cl H
 | k + 13, hk => exact absurd hk (by omega)
/-- What Resolve's visitor works on: the resolver in block r, its map m, the last statement's number in block a. -/
structure RsI (m : Nat) (K : List UInt8 → Nat) (r a : Nat) (n : Nat) (w : World) : Prop where
 km : KMap w m K
 hr : Holds w r 66 #[.map (some m)]
 ha : Holds w a 3 #[.int .i64 n]
 ra : r < a
 ma : m < a
theorem RsI.below {m r a n : Nat} {K : List UInt8 → Nat} {w w' : World} (h : RsI m K r a n w) (hb : Below w.heap.size w w') : RsI m K r a n w' :=
 ⟨h.km.below hb, h.hr.below hb h.hr.lt, h.ha.below hb h.ha.lt, h.ra, h.ma⟩
theorem RsI.put {m r a n : Nat} {K : List UInt8 → Nat} {w : World} (h : RsI m K r a n w) (n' : Nat) : RsI m K r a n' (w.setCell ⟨a, 0, none⟩ (.int .i64 n')) := by
 have hW : Writes [some a] w (w.setCell ⟨a, 0, none⟩ (.int .i64 n')) := Writes.store w (by simp) _
 have h1 := h.ra
 have h2 := h.ma
 refine ⟨h.km.writes hW (by simp; omega), hW.holds h.hr (by simp; omega), ?_, h.ra, h.ma⟩
 have := h.ha.store 0 (.int .i64 n')
 simpa using this
def atD (K : List UInt8 → Nat) (_ : Nat) (h : Hd) : Nat × Bool := (h.at_, soundP K h)
set_option maxRecDepth 100000 in
set_option maxHeartbeats 1000000 in
theorem rvis_any (m r a n : Nat) (K : List UInt8 → Nat) (h : Hd) (w : World) (pe pf pc Aa At Al : Option Addr) (na ca nt ct nl cl : Nat) (H : HdAt w (NotOf [some a]) h (.pointer pe) (.pointer pf) (.pointer pc) (.slice Aa na ca)) (hI : RsI m K r a n w) :
  Calls Try.prog 25 #[.agg (stC h pe pf pc Aa At Al na ca nt ct nl cl), .pointer (some ⟨a, 0, none⟩), .pointer (some ⟨r, 0, none⟩)] w fun e w' => e = .returned (.bool (soundP K h)) ∧ RsI m K r a h.at_ w' ∧ Writes [some a] w w' := by
 obtain ⟨w1, hw1⟩ : ∃ y, y = w.alloc (.cells (stC h pe pf pc Aa At Al na ca nt ct nl cl) 38) := ⟨_, rfl⟩
 obtain ⟨g, hg⟩ : ∃ y, y = w.heap.size := ⟨_, rfl⟩
 have hb1 : Below w.heap.size w w1 := by rw [hw1]; exact below_new w _
 have hs1 : Holds w1 g 38 (stC h pe pf pc Aa At Al na ca nt ct nl cl) := by rw [hw1, hg]; exact Holds.new w _ _
 have hag : g ≠ a := by have := hI.ha.lt; omega
 have hI1 := hI.below hb1
 obtain ⟨w2, hw2⟩ : ∃ y, y = w1.setCell ⟨a, 0, none⟩ (.int .i64 h.at_) := ⟨_, rfl⟩
 have hW2 : Writes [some a] w1 w2 := by rw [hw2]; exact Writes.store w1 (by simp) _
 have hI2 : RsI m K r a h.at_ w2 := by rw [hw2]; exact hI1.put h.at_
 have hs2 : Holds w2 g 38 (stC h pe pf pc Aa At Al na ca nt ct nl cl) := hW2.holds hs1 (by simp; exact hag)
 have H2 : HdAt w2 Evr h (.pointer pe) (.pointer pf) (.pointer pc) (.slice Aa na ca) := ((H.below hb1).keep fun x hx hS => hW2.block x hx hS).mono fun _ _ _ => trivial
 have hWW : Writes [some a] w w2 := (Writes.of_below hb1 _).trans hW2
 have q9 : w1.cell? ⟨g, 9, none⟩ = some (.int .i64 h.at_) := hs1.cell 9
 have qg := hs1.lt
 have qa : w1.cell? ⟨a, 0, none⟩ = some (.int .i64 n) := hI1.ha.cell 0
 have qal := hI1.ha.lt
 have qaf := hI1.ha.frozen 0
 have hs1' := Lib.hid hs1
 have hs2' := Lib.hid hs2
 have hI2' := Lib.hid hI2
 have H2' := Lib.hid H2
 have hWW' := Lib.hid hWW
 have hfo := Lib.hid hw1.symm
 have hg' := Lib.hid hg.symm
 have hfo2 := Lib.hid hw2.symm
 unfold stC at hfo
 clear hw1 hg hb1 hs1 hI1 hw2 hW2 hI2 hs2 H2 hWW H hI
 unfold stC
 go_enter Try.func25, Try.ntmps25
 go_upto_region 1 with (fail)
 rw [hg'.out, hfo.out]
 clear hfo hg'
 go_upto_region 2 with (fail)
 rw [hfo2.out]
 clear hfo2 q9 qg qa qal qaf
 have q0 : w2.cell? ⟨g, 0, none⟩ = some (.int .i64 h.k) := hs2'.out.cell 0
 have q1 : w2.cell? ⟨g, 1, none⟩ = some (.string (strV h.x)) := hs2'.out.cell 1
 have q2 : w2.cell? ⟨g, 2, none⟩ = some (.string (strV h.y)) := hs2'.out.cell 2
 have q3 : w2.cell? ⟨g, 3, none⟩ = some (.pointer pe) := hs2'.out.cell 3
 have q4 : w2.cell? ⟨g, 4, none⟩ = some (.pointer pf) := hs2'.out.cell 4
 have q5 : w2.cell? ⟨g, 5, none⟩ = some (.pointer pc) := hs2'.out.cell 5
 have q6 : w2.cell? ⟨g, 6, none⟩ = some (.slice Aa na ca) := hs2'.out.cell 6
 have q7 : w2.cell? ⟨g, 7, none⟩ = some (.slice At nt ct) := hs2'.out.cell 7
 have q8 : w2.cell? ⟨g, 8, none⟩ = some (.slice Al nl cl) := hs2'.out.cell 8
 have q9 : w2.cell? ⟨g, 9, none⟩ = some (.int .i64 h.at_) := hs2'.out.cell 9
 have qs := hs2'.out.lt
 have qr : w2.cell? ⟨r, 0, none⟩ = some (.map (some m)) := hI2'.out.hr.cell 0
 have qrl := hI2'.out.hr.lt
 go_wp2_with fail
 refine (sound_any w2 m K hI2'.out.km h pe pf pc Aa At Al na ca nt ct nl cl H2'.out).mono ?_
 rintro e w3 ⟨rfl, hb3⟩
 have hI3 := Lib.hid (hI2'.out.below hb3)
 have hW3 := Lib.hid (hWW'.out.trans (Writes.of_below hb3 _))
 clear hb3 q0 q1 q2 q3 q4 q5 q6 q7 q8 q9 qs qr qrl hs2' hI2' H2' hWW' hs1'
 go_wp2_with fail
 go_ret
 exact ⟨rfl, hI3.out, hW3.out⟩
theorem rvis_snk (m r a : Nat) (K : List UInt8 → Nat) : StSnk 25 #[] #[.pointer (some ⟨a, 0, none⟩), .pointer (some ⟨r, 0, none⟩)] [some a] (RsI m K r a) (atD K) :=
 ⟨enters_of Try.func25 (by kernel_rfl) rfl, fun n h w pe pf pc Aa At Al na ca nt ct nl cl H hI => rvis_any m r a n K h w pe pf pc Aa At Al na ca nt ct nl cl H hI, fun _ _ _ h hb => h.below hb, fun _ _ g h hg => by simp at hg; subst hg; exact h.ha.lt⟩
/-- Where a visitor stops is the first statement that does not keep the rules. -/
theorem vis_first (K : List UInt8 → Nat) : ∀ (l : Sl) (n : Nat), (∀ a, firstP K l = some a → vis (atD K) n l = (a, false)) ∧ (firstP K l = none → (vis (atD K) n l).2 = true)
 | .nil, n => ⟨fun a h => (by cases h), fun _ => rfl⟩
 | .cons h t e r, n => by
  obtain ⟨t1, t2⟩ := vis_first K t h.at_
  obtain ⟨e1, e2⟩ := vis_first K e (vis (atD K) h.at_ t).1
  obtain ⟨r1, r2⟩ := vis_first K r (vis (atD K) (vis (atD K) h.at_ t).1 e).1
  have hd : (atD K n h).1 = h.at_ := rfl
  have hd2 : (atD K n h).2 = soundP K h := rfl
  constructor
  ·intro a ha
   unfold firstP at ha
   unfold vis
   rw [hd, hd2]
   by_cases hs : soundP K h = true
   ·rw [if_pos hs] at ha ⊢
    cases ht : firstP K t with
    | some b =>
     rw [ht] at ha
     simp only [Option.some.injEq] at ha
     rw [t1 b ht, if_neg (by simp), ha]
    | none =>
     rw [ht] at ha
     simp only at ha
     rw [if_pos (t2 ht)]
     cases he : firstP K e with
     | some b =>
      rw [he] at ha
      simp only [Option.some.injEq] at ha
      rw [e1 b he, if_neg (by simp), ha]
     | none =>
      rw [he] at ha
      simp only at ha
      rw [if_pos (e2 he)]
      exact r1 a ha
   ·rw [if_neg hs] at ha ⊢
    simp only [Option.some.injEq] at ha
    rw [ha]
  ·intro hn
   unfold firstP at hn
   unfold vis
   rw [hd, hd2]
   by_cases hs : soundP K h = true
   ·rw [if_pos hs] at hn ⊢
    cases ht : firstP K t with
    | some b => rw [ht] at hn; cases hn
    | none =>
     rw [ht] at hn
     simp only at hn
     rw [if_pos (t2 ht)]
     cases he : firstP K e with
     | some b => rw [he] at hn; cases hn
     | none =>
      rw [he] at hn
      simp only at hn
      rw [if_pos (e2 he)]
      exact r2 hn
   ·rw [if_neg hs] at hn
    cases hn
end Go.Proofs.Ytpndglghpojjkaa
/- slices.Clone of variables, arguments, statements, strings: a row of the call's own with the same cells. -/
namespace Go.Proofs.Ytpndglghpojjkaa
open Go.RowKit Go.Deep

/-- A row's cells, told by address. -/
theorem RowS.add {w : World} {S : Nat → Prop} {a : Addr} {vs : List Value} (h : RowS w S (some a) vs) (j : Nat) (u : Value) (hu : vs[j]? = some u) : w.cell? (a.add j) = some u := by
 have hne : vs ≠ [] := fun e => by rw [e] at hu; cases hu
 obtain ⟨b, off, e, -, hc⟩ := h hne
 injection e with e
 subst e
 have := hc j u hu
 cases j with
 | zero => simpa [Addr.add] using this
 | succ j => simpa [Addr.add] using this
theorem RowS.up {w w' : World} {A : Option Addr} {vs : List Value} (h : RowS w Evr A vs) (hb : Below w.heap.size w w') : RowS w' Evr A vs := h.keep fun x hx _ => hb.block x hx
theorem RowS.none_ {w : World} {S : Nat → Prop} {vs : List Value} (h : RowS w S none vs) : vs = [] := by
 rcases vs with _ | ⟨y, r⟩
 ·rfl
 ·obtain ⟨_, _, e, _⟩ := h (by simp)
  cases e
theorem own_emptyT (w : World) (t : TypeId) (size : Nat) (B : Nat) (hB : B ≤ w.heap.size) : (w.alloc (.cells #[] t)).ownsRow B t size (.slice (some ⟨w.heap.size, 0, none⟩) 0 0) 0 [] :=
 ⟨by simp, .inr ⟨w.heap.size, 0, #[], rfl, hB, heap_alloc_new w _, Nat.le_refl _, by unfold maxLen; omega, by simp, by simp⟩⟩
theorem Try.clVar : (Try.prog.info? 59).map (fun i => (i.zero, i.size, i.bytes)) = some (some (.agg #[.string ⟨#[]⟩, .bool false]), 2, 24) := by kernel_rfl
set_option maxRecDepth 100000 in
set_option maxHeartbeats 1000000 in
theorem cloneVar_any (w : World) (A : Option Addr) (n c : Nat) (vs : List Value) (hl : vs.length = n * 2) (hm : n ≤ 300000) (hr : RowS w Evr A vs) (h1 : ∀ u ∈ vs, u.oneCell' = true) :
  Calls Try.prog 27 #[.slice A n c] w fun e w' => (∃ v, e = .returned v ∧ w'.ownsRow w.heap.size 59 2 v n vs) ∧ Below w.heap.size w w' := by
 obtain ⟨iA, hiA, hzA0, hzA1, hzA2⟩ := info_parts Try.clVar
 have hq := fun w => Lib.run_eql_slice_nil (P := Try.prog) w 23 59 A n c 0 0 Try.underlying23
 rcases A with _ | a
 ·have hn : vs = [] := hr.none_
  have hn0 : n = 0 := by rw [hn] at hl; simp at hl; omega
  subst hn hn0
  clear hr hl hm h1
  go_enter Try.func27, Try.ntmps27
  go_wp2_with fail
  go_ret
  exact ⟨⟨_, rfl, World.ownsRow_nil _ _ _ _⟩, Below.refl _ _⟩
 ·have ho := Lib.hid (own_emptyT w 59 2 w.heap.size (Nat.le_refl _))
  have hnews := Lib.hid ((hr.up (below_new w (.cells #[] 59))).add)
  have hone := Lib.hid h1
  have hbn := Lib.hid (below_new w (.cells #[] 59))
  have hbs := Lib.hid (below_new w (.cells #[] 59)).size
  have hl' := Lib.hid hl
  clear hr hl h1
  go_enter Try.func27, Try.ntmps27
  go_wp2_with
   (at_builtin
    go_loud (refine wpList_append_own_at _ rfl (.tmp 5) (.tmp 6) 23 rfl w.heap.size 59 iA _ 2 24 rfl hiA hzA0 hzA1 hzA2 rfl (by omega) (.slice (some ⟨w.heap.size, 0, none⟩) 0 0) 0 [] rfl ho.out a n c vs rfl hl'.out hnews.out hone.out (by unfold maxLen; omega) (by omega) hbs.out ?_)
    intro v1 w1 ho1 hg1 _ _
    have hv1 := Lib.hid ho1
    have hB1 : Hid (Below w.heap.size w w1) := Lib.hid (hbn.out.trans ((Writes.of_grown hg1 (M := [some w.heap.size]) (by simp [Value.ownBlock])).below hbs.out (fun j hj => by simp at hj; omega)))
    clear ho1 hg1)
  go_ret
  exact ⟨⟨v1, rfl, by have := hv1.out; rw [Nat.zero_add, List.nil_append] at this; exact this⟩, hB1.out⟩
theorem Try.clArg : (Try.prog.info? 106).map (fun i => (i.zero, i.size, i.bytes)) = some (some (.agg #[.bool false, .string ⟨#[]⟩, .pointer none]), 3, 32) := by kernel_rfl
set_option maxRecDepth 100000 in
set_option maxHeartbeats 1000000 in
theorem cloneArg_any (w : World) (A : Option Addr) (n c : Nat) (vs : List Value) (hl : vs.length = n * 3) (hm : n ≤ 300000) (hr : RowS w Evr A vs) (h1 : ∀ u ∈ vs, u.oneCell' = true) :
  Calls Try.prog 73 #[.slice A n c] w fun e w' => (∃ v, e = .returned v ∧ w'.ownsRow w.heap.size 106 3 v n vs) ∧ Below w.heap.size w w' := by
 obtain ⟨iA, hiA, hzA0, hzA1, hzA2⟩ := info_parts Try.clArg
 have hq := fun w => Lib.run_eql_slice_nil (P := Try.prog) w 36 106 A n c 0 0 Try.underlying36
 rcases A with _ | a
 ·have hn : vs = [] := hr.none_
  have hn0 : n = 0 := by rw [hn] at hl; simp at hl; omega
  subst hn hn0
  clear hr hl hm h1
  go_enter Try.func73, Try.ntmps73
  go_wp2_with fail
  go_ret
  exact ⟨⟨_, rfl, World.ownsRow_nil _ _ _ _⟩, Below.refl _ _⟩
 ·have ho := Lib.hid (own_emptyT w 106 3 w.heap.size (Nat.le_refl _))
  have hnews := Lib.hid ((hr.up (below_new w (.cells #[] 106))).add)
  have hone := Lib.hid h1
  have hbn := Lib.hid (below_new w (.cells #[] 106))
  have hbs := Lib.hid (below_new w (.cells #[] 106)).size
  have hl' := Lib.hid hl
  clear hr hl h1
  go_enter Try.func73, Try.ntmps73
  go_wp2_with
   (at_builtin
    go_loud (refine wpList_append_own_at _ rfl (.tmp 5) (.tmp 6) 36 rfl w.heap.size 106 iA _ 3 32 rfl hiA hzA0 hzA1 hzA2 rfl (by omega) (.slice (some ⟨w.heap.size, 0, none⟩) 0 0) 0 [] rfl ho.out a n c vs rfl hl'.out hnews.out hone.out (by unfold maxLen; omega) (by omega) hbs.out ?_)
    intro v1 w1 ho1 hg1 _ _
    have hv1 := Lib.hid ho1
    have hB1 : Hid (Below w.heap.size w w1) := Lib.hid (hbn.out.trans ((Writes.of_grown hg1 (M := [some w.heap.size]) (by simp [Value.ownBlock])).below hbs.out (fun j hj => by simp at hj; omega)))
    clear ho1 hg1)
  go_ret
  exact ⟨⟨v1, rfl, by have := hv1.out; rw [Nat.zero_add, List.nil_append] at this; exact this⟩, hB1.out⟩
theorem Try.clStmt : (Try.prog.info? 38).map (fun i => (i.zero, i.size, i.bytes)) = some (some (.agg #[.int .i64 0, .string ⟨#[]⟩, .string ⟨#[]⟩, .pointer none, .pointer none, .pointer none, .slice none 0 0, .slice none 0 0, .slice none 0 0, .int .i64 0]), 10, 144) := by kernel_rfl
set_option maxRecDepth 100000 in
set_option maxHeartbeats 1000000 in
theorem cloneStmt_any (w : World) (A : Option Addr) (n c : Nat) (vs : List Value) (hl : vs.length = n * 10) (hm : n ≤ 300000) (hr : RowS w Evr A vs) (h1 : ∀ u ∈ vs, u.oneCell' = true) :
  Calls Try.prog 52 #[.slice A n c] w fun e w' => (∃ v, e = .returned v ∧ w'.ownsRow w.heap.size 38 10 v n vs) ∧ Below w.heap.size w w' := by
 obtain ⟨iA, hiA, hzA0, hzA1, hzA2⟩ := info_parts Try.clStmt
 have hq := fun w => Lib.run_eql_slice_nil (P := Try.prog) w 24 38 A n c 0 0 Try.underlying24
 rcases A with _ | a
 ·have hn : vs = [] := hr.none_
  have hn0 : n = 0 := by rw [hn] at hl; simp at hl; omega
  subst hn hn0
  clear hr hl hm h1
  go_enter Try.func52, Try.ntmps52
  go_wp2_with fail
  go_ret
  exact ⟨⟨_, rfl, World.ownsRow_nil _ _ _ _⟩, Below.refl _ _⟩
 ·have ho := Lib.hid (own_emptyT w 38 10 w.heap.size (Nat.le_refl _))
  have hnews := Lib.hid ((hr.up (below_new w (.cells #[] 38))).add)
  have hone := Lib.hid h1
  have hbn := Lib.hid (below_new w (.cells #[] 38))
  have hbs := Lib.hid (below_new w (.cells #[] 38)).size
  have hl' := Lib.hid hl
  clear hr hl h1
  go_enter Try.func52, Try.ntmps52
  go_wp2_with
   (at_builtin
    go_loud (refine wpList_append_own_at _ rfl (.tmp 5) (.tmp 6) 24 rfl w.heap.size 38 iA _ 10 144 rfl hiA hzA0 hzA1 hzA2 rfl (by omega) (.slice (some ⟨w.heap.size, 0, none⟩) 0 0) 0 [] rfl ho.out a n c vs rfl hl'.out hnews.out hone.out (by unfold maxLen; omega) (by omega) hbs.out ?_)
    intro v1 w1 ho1 hg1 _ _
    have hv1 := Lib.hid ho1
    have hB1 : Hid (Below w.heap.size w w1) := Lib.hid (hbn.out.trans ((Writes.of_grown hg1 (M := [some w.heap.size]) (by simp [Value.ownBlock])).below hbs.out (fun j hj => by simp at hj; omega)))
    clear ho1 hg1)
  go_ret
  exact ⟨⟨v1, rfl, by have := hv1.out; rw [Nat.zero_add, List.nil_append] at this; exact this⟩, hB1.out⟩
end Go.Proofs.Ytpndglghpojjkaa
/- Package names: the resolver's args: a call's arguments, pointers among them told as such. -/
namespace Go.Proofs.Ytpndglghpojjkaa
open Go.RowKit Go.Deep

/-- A row of arguments in block g: the j-th is f j; their trees lie elsewhere. -/
def ARow (w : World) (S : Nat → Prop) (g n : Nat) (f : Nat → Ag) (cs : Array Value) : Prop :=
 Holds w g 106 cs ∧ ∀ j, j < n → ∃ ve, cs[j * 3]? = some (.bool (f j).ptr) ∧ cs[j * 3 + 1]? = some (.string (strV (f j).nm)) ∧ cs[j * 3 + 2]? = some ve ∧ ExAt w S (f j).e ve ∧ (f j).nm.length ≤ 4096
section
variable {w w' : World} {S : Nat → Prop} {g n : Nat} {f : Nat → Ag} {cs : Array Value}
theorem ARow.below (h : ARow w S g n f cs) (hb : Below w.heap.size w w') : ARow w' S g n f cs :=
 ⟨h.1.below hb h.1.lt, fun j hj => by
  obtain ⟨ve, a, b, c, d, e⟩ := h.2 j hj
  exact ⟨ve, a, b, c, d.below hb, e⟩⟩
theorem ARow.put (h : ARow w S g n f cs) (hgS : ¬ S g) {k : Nat} (hk : k < n) {x : List UInt8} (hx : x.length ≤ 4096) :
  ARow (((w.setCell ⟨g, k * 3, none⟩ (.bool true)).setCell ⟨g, k * 3 + 1, none⟩ (.string (strV x))).setCell ⟨g, k * 3 + 2, none⟩ (.pointer none)) S g n (fun j => if j = k then ⟨true, x, .nil⟩ else f j)
   (((cs.setIfInBounds (k * 3) (.bool true)).setIfInBounds (k * 3 + 1) (.string (strV x))).setIfInBounds (k * 3 + 2) (.pointer none)) := by
 have hW : Writes [some g] w (((w.setCell ⟨g, k * 3, none⟩ (.bool true)).setCell ⟨g, k * 3 + 1, none⟩ (.string (strV x))).setCell ⟨g, k * 3 + 2, none⟩ (.pointer none)) :=
  ((Writes.store w (by simp) _).trans (Writes.store _ (by simp) _)).trans (Writes.store _ (by simp) _)
 refine ⟨((h.1.store _ _).store _ _).store _ _, fun j hj => ?_⟩
 obtain ⟨ve, a, b, c, d, e⟩ := h.2 j hj
 have hs : j * 3 + 2 < cs.size := (Array.getElem?_eq_some_iff.1 c).1
 by_cases hjk : j = k
 ·subst hjk
  dsimp only
  rw [if_pos rfl]
  refine ⟨.pointer none, ?_, ?_, ?_, rfl, hx⟩
  ·rw [Array.getElem?_setIfInBounds_ne (by omega), Array.getElem?_setIfInBounds_ne (by omega), Array.getElem?_setIfInBounds_self_of_lt (by omega)]
  ·rw [Array.getElem?_setIfInBounds_ne (by omega), Array.getElem?_setIfInBounds_self_of_lt (by simp; omega)]
  ·rw [Array.getElem?_setIfInBounds_self_of_lt (by simp; omega)]
 ·dsimp only
  rw [if_neg hjk]
  refine ⟨ve, ?_, ?_, ?_, d.keep (fun x hx hS => hW.block x hx (by simp; rintro rfl; exact hgS hS)), e⟩
  ·rw [Array.getElem?_setIfInBounds_ne (by omega), Array.getElem?_setIfInBounds_ne (by omega), Array.getElem?_setIfInBounds_ne (by omega)]; exact a
  ·rw [Array.getElem?_setIfInBounds_ne (by omega), Array.getElem?_setIfInBounds_ne (by omega), Array.getElem?_setIfInBounds_ne (by omega)]; exact b
  ·rw [Array.getElem?_setIfInBounds_ne (by omega), Array.getElem?_setIfInBounds_ne (by omega), Array.getElem?_setIfInBounds_ne (by omega)]; exact c
theorem ARow.congr (h : ARow w S g n f cs) {f' : Nat → Ag} (he : ∀ j, j < n → f' j = f j) : ARow w S g n f' cs :=
 ⟨h.1, fun j hj => by rw [he j hj]; exact h.2 j hj⟩
/-- The cells that a row holds, as a list of arguments. -/
theorem ARow.cells (h : ARow w S g n f cs) : ∀ k, k ≤ n → ∃ vs, vs.length = k * 3 ∧ (∀ j u, vs[j]? = some u → w.cell? ⟨g, 0 + j, none⟩ = some u) ∧ AgCells w S ((List.range k).map f) vs
 | 0, _ => ⟨[], rfl, by simp, rfl⟩
 | k + 1, hk => by
  obtain ⟨vs, hl, hc, ha⟩ := ARow.cells h k (by omega)
  obtain ⟨ve, a, b, c, d, e⟩ := h.2 k (by omega)
  refine ⟨vs ++ [.bool (f k).ptr, .string (strV (f k).nm), ve], by simp; omega, fun j u hu => ?_, ?_⟩
  ·rw [Nat.zero_add, h.1.cell]
   rcases Nat.lt_or_ge j vs.length with h1 | h1
   ·rw [List.getElem?_append_left h1] at hu
    have := hc j u hu
    rw [Nat.zero_add, h.1.cell] at this
    exact this
   ·rw [List.getElem?_append_right h1, hl] at hu
    have h2 : j - k * 3 < 3 := by
     have := (List.getElem?_eq_some_iff.1 hu).1
     simpa using this
    match hj : j - k * 3, h2 with
    | 0, _ => rw [hj] at hu; simp at hu; rw [show j = k * 3 by omega, a, hu]
    | 1, _ => rw [hj] at hu; simp at hu; rw [show j = k * 3 + 1 by omega, b, hu]
    | 2, _ => rw [hj] at hu; simp at hu; rw [show j = k * 3 + 2 by omega, c, hu]
  ·rw [List.range_succ, List.map_append]
   exact AgCells.snoc ha e d
theorem ARow.ags (h : ARow w S g n f cs) {l : List Ag} (hl : l.length = n) (hf : ∀ j (hj : j < l.length), f j = l[j]) (hn : n ≤ 100000) {c : Nat} (hc : n ≤ c) : AgsAt w (fun x => S x ∨ x = g) l (.slice (some ⟨g, 0, none⟩) n c) := by
 obtain ⟨vs, h1, h2, h3⟩ := h.cells n (Nat.le_refl _)
 have e : (List.range n).map f = l := by
  apply List.ext_getElem
  ·simp [hl]
  ·intro i h4 h5
   simp only [List.getElem_map, List.getElem_range]
   exact hf i h5
 rw [e] at h3
 subst hl
 exact ⟨_, c, vs, rfl, hn, hc, fun _ => ⟨g, 0, rfl, .inr rfl, h2⟩, h3.mono fun _ _ h => .inl h⟩
/-- A row of arguments that a call has copied for itself. -/
theorem ARow.of {base : Nat} {v : Value} {l : List Ag} {vs : List Value} {w0 : World} (h : w.ownsRow base 106 3 v l.length vs) (hne : l ≠ []) (hc : AgCells w0 S l vs) (hb : Below w0.heap.size w0 w) :
  ∃ g cap cs, v = .slice (some ⟨g, 0, none⟩) l.length cap ∧ l.length ≤ cap ∧ base ≤ g ∧ ARow w (fun x => x < w0.heap.size ∧ S x) g l.length (fun j => l.getD j ⟨false, [], .nil⟩) cs := by
 have hlen : vs.length = l.length * 3 := h.1
 rcases h.2 with ⟨h1, h2⟩ | ⟨g, cap, cur, h1, hg, hh, hcap, hmx, hsz, htk⟩
 ·exact absurd (List.eq_nil_of_length_eq_zero h2) hne
 ·refine ⟨g, cap, cur, h1, hcap, hg, hh, fun j hj => ?_⟩
  obtain ⟨ve, a, b, c, d, e⟩ := hc.at_ hj
  have hcur : ∀ i u, vs[i]? = some u → cur[i]? = some u := fun i u hu => by
   have hi : i < vs.length := (List.getElem?_eq_some_iff.1 hu).1
   rw [← htk, List.getElem?_take] at hu
   split at hu
   ·rw [← Array.getElem?_toList]; exact hu
   ·cases hu
  simp only [List.getD_eq_getElem?_getD, List.getElem?_eq_getElem hj, Option.getD_some]
  exact ⟨ve, hcur _ _ a, hcur _ _ b, hcur _ _ c, (d.mono fun x hx hS => ⟨hx, hS⟩).below hb, e⟩
end
end Go.Proofs.Ytpndglghpojjkaa
/- Package names: the walk of the resolver's args. -/
namespace Go.Proofs.Ytpndglghpojjkaa
open Go.RowKit Go.Deep

theorem AgCells.one {w : World} {S : Nat → Prop} : ∀ {l : List Ag} {vs : List Value}, AgCells w S l vs → ∀ u ∈ vs, u.oneCell' = true
 | [], vs, h => by obtain rfl : vs = [] := h; intro u hu; cases hu
 | a :: l, vs, h => by
  obtain ⟨ve, vs', rfl, -, h1, h2⟩ := h
  obtain ⟨p, rfl⟩ := h1.vp
  intro u hu
  simp only [List.mem_cons] at hu
  rcases hu with rfl | rfl | rfl | hu
  ·rfl
  ·rfl
  ·rfl
  ·exact AgCells.one h2 u hu
theorem Rsv.writes {m r g : Nat} {K : List UInt8 → Nat} {w0 w w' : World} (h : Rsv m K r w0 w) (hW : Writes [some g] w w') (hg : r < g) (hm : m < g) (hw : w0.heap.size ≤ r) : Rsv m K r w0 w' :=
 ⟨h.km.writes hW (by simp; omega), hW.holds h.hr (by simp; omega), h.bl.trans (hW.below h.bl.size (fun j hj => by simp at hj; omega))⟩
theorem ptrF_name {e : Ex} {w : World} {S : Nat → Prop} {v : Value} (hE : ExAt w S e v) : e.name.length ≤ 4096 := by
 cases e with
 | nil => simp [Ex.name]
 | mk => obtain ⟨_, _, _, _, _, hn, _⟩ := hE; exact hn
/-- The row behind k rounds. -/
def argK (K : List UInt8 → Nat) (l : List Ag) (k j : Nat) : Ag := if j < k then argL K (l.getD j ⟨false, [], .nil⟩) else l.getD j ⟨false, [], .nil⟩
set_option maxRecDepth 100000 in
set_option maxHeartbeats 2000000 in
theorem rargs_any (w : World) (m : Nat) (K : List UInt8 → Nat) (h : KMap w m K) (l : List Ag) (v : Value) (S : Nat → Prop) (hA : AgsAt w S l v) :
  Calls Try.prog 53 #[.agg #[.map (some m)], v] w fun e w' => ∃ v', e = .returned v' ∧ AgsAt w' (fun x => S x ∨ w.heap.size ≤ x) (l.map (argL K)) v' ∧ Below w.heap.size w w' := by
 have hS := Rsv.start h
 have hmr := h.lt
 obtain ⟨w1, hw1⟩ : ∃ y, y = w.alloc (.cells #[.map (some m)] 66) := ⟨_, rfl⟩
 rw [← hw1] at hS
 obtain ⟨r, hr⟩ : ∃ y, y = w.heap.size := ⟨_, rfl⟩
 have hsz1 : w1.heap.size = r + 1 := by rw [hw1, hr]; simp
 have hfold : Hid (w.alloc (.cells #[.map (some m)] 66) = w1) := Lib.hid hw1.symm
 have hrB : Hid (w.heap.size = r) := Lib.hid hr.symm
 rw [← hr] at hS
 have hS' := Lib.hid hS
 obtain ⟨A, c, vs, e, hlen, hlc, hrow, hcs⟩ := hA
 subst e
 have hvl := hcs.length
 have hone := Lib.hid hcs.one
 have hrow1 := Lib.hid ((hrow.mono (S' := Evr) fun _ _ _ => trivial).up hS.bl)
 have hA' : Hid (AgsAt w Evr l (.slice A l.length c)) := Lib.hid ⟨A, c, vs, rfl, hlen, hlc, hrow.mono fun _ _ _ => trivial, hcs.mono fun _ _ _ => trivial⟩
 have hcs' := Lib.hid hcs
 obtain ⟨n, hn'⟩ : ∃ y, y = l.length := ⟨_, rfl⟩
 rw [← hn'] at hlen hlc hvl hA' ⊢
 have hn2 := Lib.hid hn'
 have hmr' := Lib.hid (hr ▸ hmr : m < r)
 have hsz1' := Lib.hid hsz1
 clear hw1 hr hS hn' h hrow hcs hmr hsz1
 go_enter Try.func53, Try.ntmps53
 go_upto_region 1 with (fail)
 rw [hrB.out, hfold.out]
 clear hfold
 go_wp2_with fail
 refine (cloneArg_any w1 A n c vs hvl (by omega) hrow1.out hone.out).mono ?_
 rintro e w2 ⟨⟨v1, rfl, ho⟩, hb⟩
 have hS2 := Lib.hid (hS'.out.below hb)
 clear hrow1 hone hS'
 by_cases hne : l = []
 ·subst hne
  obtain rfl : n = 0 := by rw [hn2.out]; rfl
  have hv1 : ∃ A' c', v1 = .slice A' 0 c' := by
   obtain ⟨A', c', e, -, -⟩ := RowS.own (S := fun _ => True) ho (fun _ _ => trivial)
   exact ⟨A', c', e⟩
  obtain ⟨A', c', rfl⟩ := hv1
  clear ho hb hA' hcs'
  go_wp2_with fail
  go_loopw [14] (fun i wl => i = .int .i64 0 ∧ Hid (Below w.heap.size w wl)) (fun _ _ => 0)
  case atStart => exact ⟨rfl, Lib.hid hS2.out.bl⟩
  clear hS2
  obtain ⟨rfl, hB⟩ := hrel
  go_wp2_with fail
  go_ret
  exact ⟨_, rfl, ⟨A', c', [], rfl, by simp, by simp, RowS.nil_ _ _ _, rfl⟩, hB.out⟩
 ·have hof := ARow.of (l := l) (w := w2) (own_len ho hn2.out) hne hcs'.out (hS2.out.bl)
  obtain ⟨g, cap, cs, hv1, hcap, hgb, hAR⟩ := hof
  rw [← hn2.out] at hv1 hcap hAR
  subst hv1
  have hg := Lib.hid (by have := hsz1'.out; omega : r < g)
  have hAR' : Hid (ARow w2 (fun x => x < w.heap.size ∧ S x) g n (argK K l 0) cs) := Lib.hid (hAR.congr fun j hj => by unfold argK; rw [if_neg (by omega)])
  clear ho hb hcs' hgb hAR
  go_wp2_with fail
  go_loopw [14] (fun i wl => ∃ (k : Nat) (cs : Array Value), k ≤ n ∧ i = .int .i64 k ∧ Hid (ARow wl (fun x => x < w.heap.size ∧ S x) g n (argK K l k) cs) ∧ Hid (Rsv m K r w wl)) (fun i _ => n - (intOf i).toNat)
  case atStart => exact ⟨0, cs, by omega, rfl, hAR', hS2⟩
  clear hAR' hS2
  obtain ⟨k, cs, hk, rfl, hAR, hS⟩ := hrel
  rename World => wl
  by_cases hkn : k < n
  ·have hkl : k < l.length := by rw [← hn2.out]; exact hkn
   have hA2 := hA'.out
   rw [hn2.out] at hA2
   obtain ⟨b, off, ve, e, hb, c0, c1, c2, hx, hnm⟩ := AgsAt.at_ hA2 hkl
   subst e
   have q0 := (hS.out.bl.cell (p := ⟨b, off + k * 3, none⟩) hb).trans c0
   have q1 := (hS.out.bl.cell (p := ⟨b, off + k * 3 + 1, none⟩) hb).trans c1
   have q2 := (hS.out.bl.cell (p := ⟨b, off + k * 3 + 2, none⟩) hb).trans c2
   have hx2 := Lib.hid (hx.below hS.out.bl)
   obtain ⟨p, rfl⟩ := hx.vp
   obtain ⟨a, hae⟩ : ∃ a, a = l[k] := ⟨_, rfl⟩
   rw [← hae] at q0 q1 hx2 hnm
   have hgetd : Hid (l.getD k ⟨false, [], .nil⟩ = a) := Lib.hid (by rw [hae]; simp [List.getD_eq_getElem?_getD, List.getElem?_eq_getElem hkl])
   have hstep : Hid (argL K a = a → ∀ cs' w', ARow w' (fun x => x < w.heap.size ∧ S x) g n (argK K l k) cs' → ARow w' (fun x => x < w.heap.size ∧ S x) g n (argK K l (k + 1)) cs') := Lib.hid (fun hh cs' w' H => H.congr fun j hj => by
    unfold argK
    by_cases h1 : j < k
    ·rw [if_pos h1, if_pos (by omega)]
    ·by_cases h2 : j = k
     ·rw [if_neg h1, if_pos (by omega), h2, hgetd.out, hh]
     ·rw [if_neg h1, if_neg (by omega)])
   clear hb c0 c1 c2 hx hA2 hae
   obtain ⟨ap, an, ae⟩ := a
   simp only at q0 q1 hx2 hnm
   obtain ⟨wn, hwn⟩ : ∃ y, y = wl.alloc (.cells #[.bool ap, .string (strV an), .pointer p] 106) := ⟨_, rfl⟩
   obtain ⟨ga, hga⟩ : ∃ y, y = wl.heap.size := ⟨_, rfl⟩
   have hbn : Below wl.heap.size wl wn := by rw [hwn]; exact below_new wl _
   have hHa : Holds wn ga 106 #[.bool ap, .string (strV an), .pointer p] := by rw [hwn, hga]; exact Holds.new wl _ _
   have hSn := hS.out.below hbn
   have hARn := Lib.hid (hAR.out.below hbn)
   have hxn := Lib.hid (hx2.out.below hbn)
   have hfo : Hid (wl.alloc (.cells #[.bool ap, .string (strV an), .pointer p] 106) = wn) := Lib.hid hwn.symm
   have hga' := Lib.hid hga.symm
   clear hwn hbn hga hS hx2 hAR
   go_upto_region 5 with (fail)
   rw [hga'.out, hfo.out]
   clear hfo hga' q0 q1 q2
   have q2 := hHa.cell 2
   have ql := hHa.lt
   simp at q2
   obtain ⟨qr, qrl⟩ := hSn.facts
   have hHa' := Lib.hid hHa
   have hSn' := Lib.hid hSn
   clear hHa hSn
   go_wp2_with fail
   refine (named2_any wn m K hSn'.out.km ae _ hxn.out).mono ?_
   rintro e w3 ⟨rfl, hb3⟩
   have hHa3 := hHa'.out.below hb3 hHa'.out.lt
   clear q2 ql qr qrl
   have q0 := hHa3.cell 0
   simp at q0
   have ql := hHa3.lt
   have hS3 := Lib.hid (hSn'.out.below hb3)
   have hAR3 := hARn.out.below hb3
   have hxl : Hid (ae.name.length ≤ 4096) := Lib.hid (ptrF_name hxn.out)
   clear hb3 hHa3 hHa' hSn' hxn hARn
   cases hp : ptrF K ae with
   | false =>
    have hgo : Hid (ARow w3 (fun x => x < w.heap.size ∧ S x) g n (argK K l (k + 1)) cs) := Lib.hid (hstep.out (by unfold argL; simp [hp]) cs w3 hAR3)
    clear hp hAR3
    go_wp2_with fail
    exact ⟨⟨k + 1, cs, by omega, by simp, hgo, hS3⟩, by simp [intOf]; omega⟩
   | true =>
    cases hap : ap with
    | true =>
     have hgo : Hid (ARow w3 (fun x => x < w.heap.size ∧ S x) g n (argK K l (k + 1)) cs) := Lib.hid (hstep.out (by unfold argL; simp [hap]) cs w3 hAR3)
     rw [hap] at q0
     clear hp hAR3 hap
     go_wp2_with fail
     exact ⟨⟨k + 1, cs, by omega, by simp, hgo, hS3⟩, by simp [intOf]; omega⟩
    | false =>
     rw [hap] at q0
     have hnv : Hid (namedV K ae = ae.name) := Lib.hid (by unfold namedV; rw [if_pos hp])
     have hput := hAR3.put (fun hh => by have h1 := hh.1; have h2 := hg.out; have h3 := hrB.out; omega) hkn hxl.out
     obtain ⟨ve, y0, y1, y2, -, -⟩ := hAR3.2 k hkn
     have z0 : w3.cell? ⟨g, k * 3, none⟩ = some (.bool (argK K l k k).ptr) := (hAR3.1.cell _).trans y0
     have z1 : w3.cell? ⟨g, k * 3 + 1, none⟩ = some (.string (strV (argK K l k k).nm)) := (hAR3.1.cell _).trans y1
     have z2 : w3.cell? ⟨g, k * 3 + 2, none⟩ = some ve := (hAR3.1.cell _).trans y2
     have zl := hAR3.1.lt
     have zf := fun i => hAR3.1.frozen i
     obtain ⟨w4, hw4⟩ : ∃ y, y = ((w3.setCell ⟨g, k * 3, none⟩ (.bool true)).setCell ⟨g, k * 3 + 1, none⟩ (.string (strV ae.name))).setCell ⟨g, k * 3 + 2, none⟩ (.pointer none) := ⟨_, rfl⟩
     have hW4 : Writes [some g] w3 w4 := by rw [hw4]; exact ((Writes.store w3 (by simp) _).trans (Writes.store _ (by simp) _)).trans (Writes.store _ (by simp) _)
     have hS4 : Hid (Rsv m K r w w4) := Lib.hid (hS3.out.writes hW4 hg.out (Nat.lt_trans hmr'.out hg.out) (by rw [hrB.out]; exact Nat.le_refl _))
     rw [← hw4] at hput
     have hgo : Hid (ARow w4 (fun x => x < w.heap.size ∧ S x) g n (argK K l (k + 1)) _) := Lib.hid (hput.congr fun j hj => by
      unfold argK
      by_cases h2 : j = k
      ·rw [if_pos (by omega), h2, hgetd.out, if_pos rfl]
       unfold argL
       simp [hp, hap]
      ·rw [if_neg h2]
       by_cases h1 : j < k
       ·rw [if_pos h1, if_pos (by omega)]
       ·rw [if_neg h1, if_neg (by omega)])
     have hfo4 := Lib.hid hw4.symm
     rw [hnv.out]
     clear hp hAR3 hap hput y0 y1 y2 hw4 hW4 hS3
     go_wp2_with fail
     rw [hfo4.out]
     exact ⟨⟨k + 1, _, by omega, by simp, hgo, hS4⟩, by simp [intOf]; omega⟩
  ·obtain rfl : k = n := by omega
   have hlast : Hid (AgsAt wl (fun x => S x ∨ w.heap.size ≤ x) (l.map (argL K)) (.slice (some ⟨g, 0, none⟩) k cap)) := Lib.hid ((hAR.out.ags (by rw [List.length_map, ← hn2.out]) (fun j hj => by
    rw [List.getElem_map]
    unfold argK
    have hj2 : j < l.length := by simpa using hj
    rw [if_pos (by rw [hn2.out]; exact hj2)]
    simp [List.getD_eq_getElem?_getD, List.getElem?_eq_getElem hj2]) hlen hcap).mono fun x hx hh => by
    rcases hh with hh | hh
    ·exact .inl hh.2
    ·exact .inr (by have h2 := hg.out; have h3 := hrB.out; omega))
   have hB3 : Hid (Below w.heap.size w wl) := Lib.hid hS.out.bl
   clear hAR hS
   go_wp2_with fail
   go_ret
   exact ⟨_, rfl, hlast.out, hB3.out⟩
end Go.Proofs.Ytpndglghpojjkaa
/- Package names: rows of statements that the resolver turns in place. -/
namespace Go.Proofs.Ytpndglghpojjkaa
open Go.RowKit Go.Deep

/-- Statements as a plain list. -/
def Sl.elems : Sl → List (Hd × Sl × Sl)
 | .nil => []
 | .cons h t e r => (h, t, e) :: r.elems
def ofL : List (Hd × Sl × Sl) → Sl
 | [] => .nil
 | x :: l => .cons x.1 x.2.1 x.2.2 (ofL l)
theorem ofL_elems : ∀ l : Sl, ofL l.elems = l
 | .nil => rfl
 | .cons h t e r => by
  show Sl.cons h t e (ofL r.elems) = _
  rw [ofL_elems r]
theorem elems_len : ∀ l : Sl, l.elems.length = l.len
 | .nil => rfl
 | .cons h t e r => by
  show r.elems.length + 1 = r.len + 1
  rw [elems_len r]
theorem ofL_snoc : ∀ (l : List (Hd × Sl × Sl)) (x : Hd × Sl × Sl), ofL (l ++ [x]) = (ofL l).snoc x.1 x.2.1 x.2.2
 | [], _ => rfl
 | y :: l, x => by
  show Sl.cons y.1 y.2.1 y.2.2 (ofL (l ++ [x])) = Sl.cons y.1 y.2.1 y.2.2 ((ofL l).snoc _ _ _)
  rw [ofL_snoc l x]
/-- What the resolver makes of a statement. -/
def resS (K : List UInt8 → Nat) (x : Hd × Sl × Sl) : Hd × Sl × Sl := (headL K x.1, listP K x.2.1, listP K x.2.2)
theorem listP_elems (K : List UInt8 → Nat) : ∀ l : Sl, (listP K l).elems = l.elems.map (resS K)
 | .nil => rfl
 | .cons h t e r => by
  show resS K (h, t, e) :: (listP K r).elems = _
  rw [listP_elems K r]
  rfl
/-- One statement's cells, from place o on. -/
def SEl (w : World) (S : Nat → Prop) (x : Hd × Sl × Sl) (cs : Array Value) (o : Nat) : Prop :=
 ∃ pe pf pc Aa ca At ct Al cl, (∀ j, j < 10 → cs[o + j]? = (stC x.1 pe pf pc Aa At Al x.1.args.length ca x.2.1.len ct x.2.2.len cl)[j]?) ∧
  HdAt w S x.1 (.pointer pe) (.pointer pf) (.pointer pc) (.slice Aa x.1.args.length ca) ∧ SlAt w S x.2.1 (.slice At x.2.1.len ct) ∧ SlAt w S x.2.2 (.slice Al x.2.2.len cl)
/-- A row of statements in block g: the j-th is f j. -/
def SRow (w : World) (S : Nat → Prop) (g n : Nat) (f : Nat → Hd × Sl × Sl) (cs : Array Value) : Prop :=
 Holds w g 38 cs ∧ ∀ j, j < n → SEl w S (f j) cs (j * 10)
section
variable {w w' : World} {S S' : Nat → Prop} {g n : Nat} {f f' : Nat → Hd × Sl × Sl} {cs cs' : Array Value} {x : Hd × Sl × Sl} {o : Nat}
theorem SEl.keep (h : SEl w S x cs o) (hk : ∀ x, x < w.heap.size → S x → w'.heap[x]? = w.heap[x]?) : SEl w' S x cs o := by
 obtain ⟨pe, pf, pc, Aa, ca, At, ct, Al, cl, a, b, c, d⟩ := h
 exact ⟨pe, pf, pc, Aa, ca, At, ct, Al, cl, a, b.keep hk, c.keep hk, d.keep hk⟩
theorem SEl.mono (h : SEl w S x cs o) (hk : ∀ x, x < w.heap.size → S x → S' x) : SEl w S' x cs o := by
 obtain ⟨pe, pf, pc, Aa, ca, At, ct, Al, cl, a, b, c, d⟩ := h
 exact ⟨pe, pf, pc, Aa, ca, At, ct, Al, cl, a, b.mono hk, c.mono hk, d.mono hk⟩
theorem SEl.cells (h : SEl w S x cs o) (hc : ∀ j, j < 10 → cs'[o + j]? = cs[o + j]?) : SEl w S x cs' o := by
 obtain ⟨pe, pf, pc, Aa, ca, At, ct, Al, cl, a, b, c, d⟩ := h
 exact ⟨pe, pf, pc, Aa, ca, At, ct, Al, cl, fun j hj => (hc j hj).trans (a j hj), b, c, d⟩
theorem SRow.below (h : SRow w S g n f cs) (hb : Below w.heap.size w w') : SRow w' S g n f cs :=
 ⟨h.1.below hb h.1.lt, fun j hj => (h.2 j hj).keep fun x hx _ => hb.block x hx⟩
theorem SRow.mono (h : SRow w S g n f cs) (hk : ∀ x, x < w.heap.size → S x → S' x) : SRow w S' g n f cs := ⟨h.1, fun j hj => (h.2 j hj).mono hk⟩
theorem SRow.congr (h : SRow w S g n f cs) (he : ∀ j, j < n → f' j = f j) : SRow w S g n f' cs := ⟨h.1, fun j hj => by rw [he j hj]; exact h.2 j hj⟩
/-- One cell of the k-th is stored. -/
theorem SRow.put (h : SRow w S g n f cs) (hgS : ¬ S g) {k r : Nat} (hk : k < n) (hr : r < 10) (u : Value) (x : Hd × Sl × Sl)
  (hx : ∀ w', (∀ y, y < w.heap.size → S y → w'.heap[y]? = w.heap[y]?) → SEl w S (f k) cs (k * 10) → k * 10 + 9 < cs.size → SEl w' S x (cs.setIfInBounds (k * 10 + r) u) (k * 10)) :
  SRow (w.setCell ⟨g, k * 10 + r, none⟩ u) S g n (fun j => if j = k then x else f j) (cs.setIfInBounds (k * 10 + r) u) := by
 have hW : Writes [some g] w (w.setCell ⟨g, k * 10 + r, none⟩ u) := Writes.store w (by simp) _
 have hkeep : ∀ y, y < w.heap.size → S y → (w.setCell ⟨g, k * 10 + r, none⟩ u).heap[y]? = w.heap[y]? := fun y hy hS => hW.block y hy (by simp; rintro rfl; exact hgS hS)
 refine ⟨h.1.store _ _, fun j hj => ?_⟩
 by_cases hjk : j = k
 ·dsimp only
  rw [if_pos hjk, hjk]
  refine hx _ hkeep (h.2 k hk) ?_
  obtain ⟨pe, pf, pc, Aa, ca, At, ct, Al, cl, a, -⟩ := h.2 k hk
  exact (Array.getElem?_eq_some_iff.1 (a 9 (by omega))).1
 ·dsimp only
  rw [if_neg hjk]
  refine ((h.2 j hj).keep hkeep).cells fun i hi => ?_
  rw [Array.getElem?_setIfInBounds_ne (by omega)]
theorem SEl.facts (h : SEl w S x cs o) (hH : Holds w g 38 cs) : ∃ pe Aa ca At ct Al cl, w.cell? ⟨g, o + 0, none⟩ = some (.int .i64 x.1.k) ∧ w.cell? ⟨g, o + 3, none⟩ = some (.pointer pe) ∧ w.cell? ⟨g, o + 6, none⟩ = some (.slice Aa x.1.args.length ca) ∧
  w.cell? ⟨g, o + 7, none⟩ = some (.slice At x.2.1.len ct) ∧ w.cell? ⟨g, o + 8, none⟩ = some (.slice Al x.2.2.len cl) ∧ (∃ v, w.cell? ⟨g, o + 2, none⟩ = some v) ∧ ExAt w S x.1.e (.pointer pe) ∧ AgsAt w S x.1.args (.slice Aa x.1.args.length ca) ∧ SlAt w S x.2.1 (.slice At x.2.1.len ct) ∧ SlAt w S x.2.2 (.slice Al x.2.2.len cl) := by
 obtain ⟨pe, pf, pc, Aa, ca, At, ct, Al, cl, a, b, c, d⟩ := h
 exact ⟨pe, Aa, ca, At, ct, Al, cl, (hH.cell _).trans (a 0 (by omega)), (hH.cell _).trans (a 3 (by omega)), (hH.cell _).trans (a 6 (by omega)), (hH.cell _).trans (a 7 (by omega)), (hH.cell _).trans (a 8 (by omega)), ⟨_, (hH.cell _).trans (a 2 (by omega))⟩, b.e, b.a, c, d⟩
/-- The row's cells, as statements. -/
theorem SRow.cells (h : SRow w S g n f cs) : ∀ k, k ≤ n → ∃ vs, vs.length = k * 10 ∧ (∀ j u, vs[j]? = some u → w.cell? ⟨g, 0 + j, none⟩ = some u) ∧ SlCells w S (ofL ((List.range k).map f)) vs
 | 0, _ => ⟨[], rfl, by simp, rfl⟩
 | k + 1, hk => by
  obtain ⟨vs, hl, hc, ha⟩ := SRow.cells h k (by omega)
  obtain ⟨pe, pf, pc, Aa, ca, At, ct, Al, cl, a, b, c, d⟩ := h.2 k (by omega)
  refine ⟨vs ++ (stC (f k).1 pe pf pc Aa At Al (f k).1.args.length ca (f k).2.1.len ct (f k).2.2.len cl).toList, by simp [stC]; omega, fun j u hu => ?_, ?_⟩
  ·rcases Nat.lt_or_ge j vs.length with h1 | h1
   ·rw [List.getElem?_append_left h1] at hu
    exact hc j u hu
   ·rw [List.getElem?_append_right h1, hl] at hu
    have h2 : j - k * 10 < 10 := by
     have := (List.getElem?_eq_some_iff.1 hu).1
     simpa [stC] using this
    have := a (j - k * 10) h2
    rw [show k * 10 + (j - k * 10) = j by omega] at this
    rw [Nat.zero_add, h.1.cell, this, ← Array.getElem?_toList]
    exact hu
  ·rw [List.range_succ, List.map_append, List.map_singleton, ofL_snoc]
   exact SlCells.snoc ha b c d
theorem SRow.sl (h : SRow w S g n f cs) {l : Sl} (hl : l.len = n) (hf : ∀ j (hj : j < l.elems.length), f j = l.elems[j]) (hn : n ≤ 100000) {c : Nat} (hc : n ≤ c) : SlAt w (fun x => S x ∨ x = g) l (.slice (some ⟨g, 0, none⟩) n c) := by
 obtain ⟨vs, h1, h2, h3⟩ := h.cells n (Nat.le_refl _)
 have e : (List.range n).map f = l.elems := by
  apply List.ext_getElem
  ·simp [elems_len, hl]
  ·intro i h4 h5
   simp only [List.getElem_map, List.getElem_range]
   exact hf i h5
 rw [e, ofL_elems] at h3
 subst hl
 exact ⟨_, c, vs, rfl, hn, hc, fun _ => ⟨g, 0, rfl, .inr rfl, h2⟩, h3.mono fun _ _ h => .inl h⟩
theorem SlCells.at_ : ∀ {l : Sl} {vs : List Value}, SlCells w S l vs → ∀ {k : Nat} (hk : k < l.elems.length), SEl w S l.elems[k] vs.toArray (k * 10)
 | .nil, _, _, k, hk => absurd hk (by simp [Sl.elems])
 | .cons h t e r, vs, hc, k, hk => by
  obtain ⟨ve, vf, vc, va, vt, vl, vs', rfl, hh, ht, he, hrest⟩ := hc
  cases k with
  | zero =>
   obtain ⟨pe, rfl⟩ := hh.e.vp
   obtain ⟨pf, rfl⟩ := hh.f.vp
   obtain ⟨pc, rfl⟩ := hh.c.vp
   obtain ⟨Aa, ca, vas, rfl, a1, a2, a3, a4⟩ := hh.a
   obtain ⟨At, ct, ts, rfl, t1, t2, t3, t4⟩ := ht
   obtain ⟨Al, cl, es, rfl, e1, e2, e3, e4⟩ := he
   refine ⟨pe, pf, pc, Aa, ca, At, ct, Al, cl, fun j hj => ?_, hh, ⟨At, ct, ts, rfl, t1, t2, t3, t4⟩, ⟨Al, cl, es, rfl, e1, e2, e3, e4⟩⟩
   rw [List.getElem?_toArray, Nat.zero_mul, Nat.zero_add, List.getElem?_append_left (by simp [Hd.cells]; omega), Array.getElem?_toList]
   rfl
  | succ k =>
   have ih := SlCells.at_ hrest (k := k) (by simpa [Sl.elems] using hk)
   obtain ⟨pe, pf, pc, Aa, ca, At, ct, Al, cl, a, b, c, d⟩ := ih
   refine ⟨pe, pf, pc, Aa, ca, At, ct, Al, cl, fun j hj => ?_, b, c, d⟩
   have := a j hj
   refine Eq.trans ?_ this
   rw [List.getElem?_toArray, List.getElem?_toArray, List.getElem?_append_right (by simp [Hd.cells]; omega)]
   congr 1
   simp [Hd.cells]
   omega
/-- A row of statements that a call has copied for itself. -/
theorem SRow.of {base : Nat} {v : Value} {l : Sl} {vs : List Value} {w0 : World} (h : w.ownsRow base 38 10 v l.len vs) (hne : l ≠ .nil) (hc : SlCells w0 S l vs) (hb : Below w0.heap.size w0 w) :
  ∃ g cap cs, v = .slice (some ⟨g, 0, none⟩) l.len cap ∧ l.len ≤ cap ∧ base ≤ g ∧ SRow w (fun x => x < w0.heap.size ∧ S x) g l.len (fun j => l.elems.getD j (hd0 0, .nil, .nil)) cs := by
 have hlen : vs.length = l.len * 10 := h.1
 rcases h.2 with ⟨h1, h2⟩ | ⟨g, cap, cur, h1, hg, hh, hcap, hmx, hsz, htk⟩
 ·cases l with
  | nil => exact absurd rfl hne
  | cons h t e r => simp [Sl.len] at h2
 ·refine ⟨g, cap, cur, h1, hcap, hg, hh, fun j hj => ?_⟩
  have hj2 : j < l.elems.length := by rw [elems_len]; exact hj
  have hs := hc.at_ hj2
  have hcur : ∀ i u, vs[i]? = some u → cur[i]? = some u := fun i u hu => by
   rw [← htk, List.getElem?_take] at hu
   split at hu
   ·rw [← Array.getElem?_toList]; exact hu
   ·cases hu
  simp only [List.getD_eq_getElem?_getD, List.getElem?_eq_getElem hj2, Option.getD_some]
  refine ((hs.mono fun x hx hS => ⟨hx, hS⟩).keep fun x hx _ => hb.block x hx).cells fun i hi => ?_
  have hi2 : j * 10 + i < vs.length := by omega
  have e1 : vs.toArray[j * 10 + i]? = vs[j * 10 + i]? := List.getElem?_toArray
  rw [e1, List.getElem?_eq_getElem hi2]
  exact hcur _ _ (List.getElem?_eq_getElem hi2)
theorem SlCells.one : ∀ {l : Sl} {vs : List Value}, SlCells w S l vs → ∀ u ∈ vs, u.oneCell' = true
 | .nil, vs, h => by obtain rfl : vs = [] := h; intro u hu; cases hu
 | .cons h t e r, vs, hc => by
  obtain ⟨ve, vf, vc, va, vt, vl, vs', rfl, hh, ht, he, hrest⟩ := hc
  obtain ⟨pe, rfl⟩ := hh.e.vp
  obtain ⟨pf, rfl⟩ := hh.f.vp
  obtain ⟨pc, rfl⟩ := hh.c.vp
  obtain ⟨Aa, ca, vas, rfl, a1, a2, a3, a4⟩ := hh.a
  obtain ⟨At, ct, ts, rfl, t1, t2, t3, t4⟩ := ht
  obtain ⟨Al, cl, es, rfl, e1, e2, e3, e4⟩ := he
  intro u hu
  rcases List.mem_append.1 hu with hu | hu
  ·simp only [Hd.cells, List.mem_cons, List.not_mem_nil, or_false] at hu
   rcases hu with rfl | rfl | rfl | rfl | rfl | rfl | rfl | rfl | rfl | rfl <;> rfl
  ·exact SlCells.one hrest u hu
end
end Go.Proofs.Ytpndglghpojjkaa
/- Package names: the walk of the resolver's list. -/
namespace Go.Proofs.Ytpndglghpojjkaa
open Go.RowKit Go.Deep

theorem Sl.dep_cons (h : Hd) (t e r : Sl) : (Sl.cons h t e r).dep = max (max (t.dep + 1) (e.dep + 1)) r.dep := rfl
theorem elems_dep : ∀ (l : Sl) (k : Nat) (hk : k < l.elems.length), l.elems[k].2.1.dep < l.dep ∧ l.elems[k].2.2.dep < l.dep
 | .nil, k, hk => absurd hk (by simp [Sl.elems])
 | .cons h t e r, 0, _ => by
  show t.dep < (Sl.cons h t e r).dep ∧ e.dep < (Sl.cons h t e r).dep
  rw [Sl.dep_cons]
  omega
 | .cons h t e r, k + 1, hk => by
  have hk2 : k < r.elems.length := by simpa [Sl.elems] using hk
  have ih := elems_dep r k hk2
  show r.elems[k].2.1.dep < (Sl.cons h t e r).dep ∧ r.elems[k].2.2.dep < (Sl.cons h t e r).dep
  rw [Sl.dep_cons]
  omega
/-- A region 'p.X = r.m(p.X)': how it stands. -/
structure CReg (W : World) (Z : World → Prop) (l6 l9 : Bool) (w : World) : Prop where
 o : l9 = true → l6 = true
 a : l6 = false → w = W
 c : l9 = true → Z w
/-- A region that holds one call: how it stands. -/
structure CRegN (W : World) (P : World → Prop) (l5 : Bool) (w : World) : Prop where
 a : l5 = false → w = W
 c : l5 = true → P w
/-- The resolver's list under way: the row, the resolver. -/
structure LS (m : Nat) (K : List UInt8 → Nat) (r g n : Nat) (S : Nat → Prop) (f : Nat → Hd × Sl × Sl) (w0 w : World) : Prop where
 row : ∃ cs, SRow w S g n f cs
 rs : Rsv m K r w0 w
 gS : ¬ S g
 rg : r < g
 mg : m < g
 wr : w0.heap.size ≤ r
section
variable {m r g n : Nat} {K : List UInt8 → Nat} {S : Nat → Prop} {f f' : Nat → Hd × Sl × Sl} {w0 w w' : World}
theorem LS.below (h : LS m K r g n S f w0 w) (hb : Below w.heap.size w w') : LS m K r g n S f w0 w' := by
 obtain ⟨cs, hr⟩ := h.row
 exact ⟨⟨cs, hr.below hb⟩, h.rs.below hb, h.gS, h.rg, h.mg, h.wr⟩
theorem LS.congr (h : LS m K r g n S f w0 w) (he : ∀ j, j < n → f' j = f j) : LS m K r g n S f' w0 w := by
 obtain ⟨cs, hr⟩ := h.row
 exact ⟨⟨cs, hr.congr he⟩, h.rs, h.gS, h.rg, h.mg, h.wr⟩
/-- One cell of the k-th is stored. -/
theorem LS.put (h : LS m K r g n S f w0 w) {k i : Nat} (hk : k < n) (hi : i < 10) (u : Value) (x : Hd × Sl × Sl)
  (hx : ∀ cs (w' : World), (∀ y, y < w.heap.size → S y → w'.heap[y]? = w.heap[y]?) → SEl w S (f k) cs (k * 10) → k * 10 + 9 < cs.size → SEl w' S x (cs.setIfInBounds (k * 10 + i) u) (k * 10)) :
  LS m K r g n S (fun j => if j = k then x else f j) w0 (w.setCell ⟨g, k * 10 + i, none⟩ u) := by
 obtain ⟨cs, hr⟩ := h.row
 have hW : Writes [some g] w (w.setCell ⟨g, k * 10 + i, none⟩ u) := Writes.store w (by simp) _
 exact ⟨⟨_, hr.put h.gS hk hi u x (fun w' => hx cs w')⟩, h.rs.writes hW h.rg h.mg h.wr, h.gS, h.rg, h.mg, h.wr⟩
theorem LS.twice {k : Nat} {x y : Hd × Sl × Sl} (h : LS m K r g n S (fun j => if j = k then y else (fun j => if j = k then x else f j) j) w0 w) : LS m K r g n S (fun j => if j = k then y else f j) w0 w := h.congr fun j hj => by
 by_cases e : j = k
 ·simp [e]
 ·simp [e]
theorem LS.facts (h : LS m K r g n S f w0 w) {k : Nat} (hk : k < n) : (∀ i, i < 10 → ∃ u, w.cell? ⟨g, k * 10 + i, none⟩ = some u) ∧ g < w.heap.size ∧ ∀ i, w.frozen? ⟨g, i, none⟩ = false := by
 obtain ⟨cs, hr⟩ := h.row
 obtain ⟨pe, pf, pc, Aa, ca, At, ct, Al, cl, a, -⟩ := hr.2 k hk
 refine ⟨fun i hi => ⟨_, (hr.1.cell _).trans ((a i hi).trans (Array.getElem?_eq_getElem (by simp [stC]; exact hi)))⟩, hr.1.lt, fun i => hr.1.frozen i⟩
/-- The stores into a statement. -/
theorem SEl.setK {x : Hd × Sl × Sl} {cs : Array Value} {o : Nat} (h : SEl w S x cs o) (hk : ∀ y, y < w.heap.size → S y → w'.heap[y]? = w.heap[y]?) (hs : o + 9 < cs.size) : SEl w' S ({ x.1 with k := 2 }, x.2.1, x.2.2) (cs.setIfInBounds (o + 0) (.int .i64 2)) o := by
 obtain ⟨pe, pf, pc, Aa, ca, At, ct, Al, cl, a, b, c, d⟩ := h
 refine ⟨pe, pf, pc, Aa, ca, At, ct, Al, cl, fun j hj => ?_, ⟨b.e.keep hk, b.f.keep hk, b.c.keep hk, b.a.keep hk, b.x, b.y, (by decide : (2 : Nat) ≤ 12), b.at_⟩, c.keep hk, d.keep hk⟩
 by_cases hj0 : j = 0
 ·subst hj0; rw [Array.getElem?_setIfInBounds_self_of_lt (by omega)]; rfl
 ·rw [Array.getElem?_setIfInBounds_ne (by omega), a j hj]
  match j, hj, hj0 with
  | 1, _, _ | 2, _, _ | 3, _, _ | 4, _, _ | 5, _, _ | 6, _, _ | 7, _, _ | 8, _, _ | 9, _, _ => rfl
theorem SEl.setY {x : Hd × Sl × Sl} {cs : Array Value} {o : Nat} (h : SEl w S x cs o) (hk : ∀ y, y < w.heap.size → S y → w'.heap[y]? = w.heap[y]?) (hs : o + 9 < cs.size) (y : List UInt8) (hy : y.length ≤ 4096) : SEl w' S ({ x.1 with y := y }, x.2.1, x.2.2) (cs.setIfInBounds (o + 2) (.string (strV y))) o := by
 obtain ⟨pe, pf, pc, Aa, ca, At, ct, Al, cl, a, b, c, d⟩ := h
 refine ⟨pe, pf, pc, Aa, ca, At, ct, Al, cl, fun j hj => ?_, ⟨b.e.keep hk, b.f.keep hk, b.c.keep hk, b.a.keep hk, b.x, hy, b.k, b.at_⟩, c.keep hk, d.keep hk⟩
 by_cases hj0 : j = 2
 ·subst hj0; rw [Array.getElem?_setIfInBounds_self_of_lt (by omega)]; rfl
 ·rw [Array.getElem?_setIfInBounds_ne (by omega), a j hj]
  match j, hj, hj0 with
  | 0, _, _ | 1, _, _ | 3, _, _ | 4, _, _ | 5, _, _ | 6, _, _ | 7, _, _ | 8, _, _ | 9, _, _ => rfl
theorem SEl.setE {x : Hd × Sl × Sl} {cs : Array Value} {o : Nat} (h : SEl w S x cs o) (hk : ∀ y, y < w.heap.size → S y → w'.heap[y]? = w.heap[y]?) (hs : o + 9 < cs.size) : SEl w' S ({ x.1 with e := .nil }, x.2.1, x.2.2) (cs.setIfInBounds (o + 3) (.pointer none)) o := by
 obtain ⟨pe, pf, pc, Aa, ca, At, ct, Al, cl, a, b, c, d⟩ := h
 refine ⟨none, pf, pc, Aa, ca, At, ct, Al, cl, fun j hj => ?_, ⟨rfl, b.f.keep hk, b.c.keep hk, b.a.keep hk, b.x, b.y, b.k, b.at_⟩, c.keep hk, d.keep hk⟩
 by_cases hj0 : j = 3
 ·subst hj0; rw [Array.getElem?_setIfInBounds_self_of_lt (by omega)]; rfl
 ·rw [Array.getElem?_setIfInBounds_ne (by omega), a j hj]
  match j, hj, hj0 with
  | 0, _, _ | 1, _, _ | 2, _, _ | 4, _, _ | 5, _, _ | 6, _, _ | 7, _, _ | 8, _, _ | 9, _, _ => rfl
theorem SEl.setA {x : Hd × Sl × Sl} {cs : Array Value} {o : Nat} (h : SEl w S x cs o) (hk : ∀ y, y < w.heap.size → S y → w'.heap[y]? = w.heap[y]?) (hs : o + 9 < cs.size) {l : List Ag} {A : Option Addr} {c : Nat} (hA : AgsAt w S l (.slice A l.length c)) : SEl w' S ({ x.1 with args := l }, x.2.1, x.2.2) (cs.setIfInBounds (o + 6) (.slice A l.length c)) o := by
 obtain ⟨pe, pf, pc, Aa, ca, At, ct, Al, cl, a, b, cc, d⟩ := h
 refine ⟨pe, pf, pc, A, c, At, ct, Al, cl, fun j hj => ?_, ⟨b.e.keep hk, b.f.keep hk, b.c.keep hk, hA.keep hk, b.x, b.y, b.k, b.at_⟩, cc.keep hk, d.keep hk⟩
 by_cases hj0 : j = 6
 ·subst hj0; rw [Array.getElem?_setIfInBounds_self_of_lt (by omega)]; rfl
 ·rw [Array.getElem?_setIfInBounds_ne (by omega), a j hj]
  match j, hj, hj0 with
  | 0, _, _ | 1, _, _ | 2, _, _ | 3, _, _ | 4, _, _ | 5, _, _ | 7, _, _ | 8, _, _ | 9, _, _ => rfl
theorem SEl.setT {x : Hd × Sl × Sl} {cs : Array Value} {o : Nat} (h : SEl w S x cs o) (hk : ∀ y, y < w.heap.size → S y → w'.heap[y]? = w.heap[y]?) (hs : o + 9 < cs.size) {l : Sl} {A : Option Addr} {c : Nat} (hA : SlAt w S l (.slice A l.len c)) : SEl w' S (x.1, l, x.2.2) (cs.setIfInBounds (o + 7) (.slice A l.len c)) o := by
 obtain ⟨pe, pf, pc, Aa, ca, At, ct, Al, cl, a, b, cc, d⟩ := h
 refine ⟨pe, pf, pc, Aa, ca, A, c, Al, cl, fun j hj => ?_, b.keep hk, hA.keep hk, d.keep hk⟩
 by_cases hj0 : j = 7
 ·subst hj0; rw [Array.getElem?_setIfInBounds_self_of_lt (by omega)]; rfl
 ·rw [Array.getElem?_setIfInBounds_ne (by omega), a j hj]
  match j, hj, hj0 with
  | 0, _, _ | 1, _, _ | 2, _, _ | 3, _, _ | 4, _, _ | 5, _, _ | 6, _, _ | 8, _, _ | 9, _, _ => rfl
theorem SEl.setL {x : Hd × Sl × Sl} {cs : Array Value} {o : Nat} (h : SEl w S x cs o) (hk : ∀ y, y < w.heap.size → S y → w'.heap[y]? = w.heap[y]?) (hs : o + 9 < cs.size) {l : Sl} {A : Option Addr} {c : Nat} (hA : SlAt w S l (.slice A l.len c)) : SEl w' S (x.1, x.2.1, l) (cs.setIfInBounds (o + 8) (.slice A l.len c)) o := by
 obtain ⟨pe, pf, pc, Aa, ca, At, ct, Al, cl, a, b, cc, d⟩ := h
 refine ⟨pe, pf, pc, Aa, ca, At, ct, A, c, fun j hj => ?_, b.keep hk, cc.keep hk, hA.keep hk⟩
 by_cases hj0 : j = 8
 ·subst hj0; rw [Array.getElem?_setIfInBounds_self_of_lt (by omega)]; rfl
 ·rw [Array.getElem?_setIfInBounds_ne (by omega), a j hj]
  match j, hj, hj0 with
  | 0, _, _ | 1, _, _ | 2, _, _ | 3, _, _ | 4, _, _ | 5, _, _ | 6, _, _ | 7, _, _ | 9, _, _ => rfl
end
end Go.Proofs.Ytpndglghpojjkaa
/- Package names: the walk of the resolver's list. -/
namespace Go.Proofs.Ytpndglghpojjkaa
open Go.RowKit Go.Deep

/-- The row behind k rounds. -/
def resK (K : List UInt8 → Nat) (l : Sl) (k j : Nat) : Hd × Sl × Sl := if j < k then resS K (l.elems.getD j (hd0 0, .nil, .nil)) else l.elems.getD j (hd0 0, .nil, .nil)
/-- What list leaves. -/
def RLs (m : Nat) (K : List UInt8 → Nat) (l : Sl) : Prop := ∀ (w : World) (v : Value) (S : Nat → Prop), KMap w m K → SlAt w S l v →
 Calls Try.prog 28 #[.agg #[.map (some m)], v] w fun e w' => ∃ v', e = .returned v' ∧ SlAt w' (fun x => S x ∨ w.heap.size ≤ x) (listP K l) v' ∧ Below w.heap.size w w'
/-- Old blocks of S but the row, and those behind it. -/
def LSet (w : World) (S : Nat → Prop) (g : Nat) (x : Nat) : Prop := (x < w.heap.size ∧ S x) ∨ g < x
set_option maxRecDepth 100000 in
set_option maxHeartbeats 4000000 in
theorem rlist_step (m : Nat) (K : List UInt8 → Nat) (l : Sl) (ih : ∀ l', l'.dep < l.dep → RLs m K l') : RLs m K l := by
 intro w v S h hA
 have hS := Rsv.start h
 have hmr := h.lt
 obtain ⟨w1, hw1⟩ : ∃ y, y = w.alloc (.cells #[.map (some m)] 66) := ⟨_, rfl⟩
 rw [← hw1] at hS
 obtain ⟨r, hr⟩ : ∃ y, y = w.heap.size := ⟨_, rfl⟩
 have hsz1 : w1.heap.size = r + 1 := by rw [hw1, hr]; simp
 have hfold : Hid (w.alloc (.cells #[.map (some m)] 66) = w1) := Lib.hid hw1.symm
 have hrB : Hid (w.heap.size = r) := Lib.hid hr.symm
 rw [← hr] at hS
 have hS' := Lib.hid hS
 obtain ⟨A, c, vs, e, hlen, hlc, hrow, hcs⟩ := hA
 subst e
 have hvl := hcs.length
 have hone := Lib.hid hcs.one
 have hrow1 := Lib.hid ((hrow.mono (S' := Evr) fun _ _ _ => trivial).up hS.bl)
 have hcs' := Lib.hid hcs
 obtain ⟨n, hn'⟩ : ∃ y, y = l.len := ⟨_, rfl⟩
 rw [← hn'] at hlen hlc hvl ⊢
 have hn2 := Lib.hid hn'
 have hmr' := Lib.hid (hr ▸ hmr : m < r)
 have hsz1' := Lib.hid hsz1
 have hih := Lib.hid ih
 clear hw1 hr hS hn' h hrow hcs hmr hsz1 ih
 go_enter Try.func28, Try.ntmps28
 go_upto_region 1 with (fail)
 rw [hrB.out, hfold.out]
 clear hfold
 go_wp2_with fail
 refine (cloneStmt_any w1 A n c vs hvl (by omega) hrow1.out hone.out).mono ?_
 rintro e w2 ⟨⟨v1, rfl, ho⟩, hb⟩
 have hS2 := Lib.hid (hS'.out.below hb)
 clear hrow1 hone hS'
 by_cases hne : l = .nil
 ·subst hne
  obtain rfl : n = 0 := by rw [hn2.out]; rfl
  have hv1 : ∃ A' c', v1 = .slice A' 0 c' := by
   obtain ⟨A', c', e, -, -⟩ := RowS.own (S := fun _ => True) ho (fun _ _ => trivial)
   exact ⟨A', c', e⟩
  obtain ⟨A', c', rfl⟩ := hv1
  clear ho hb hcs'
  go_wp2_with fail
  go_loopw [14] (fun i wl => i = .int .i64 0 ∧ Hid (Below w.heap.size w wl)) (fun _ _ => 0)
  case atStart => exact ⟨rfl, Lib.hid hS2.out.bl⟩
  clear hS2
  obtain ⟨rfl, hB⟩ := hrel
  go_wp2_with fail
  go_ret
  exact ⟨_, rfl, ⟨A', c', [], rfl, by simp [listP, Sl.len], by simp [listP, Sl.len], RowS.nil_ _ _ _, rfl⟩, hB.out⟩
 ·have hof := SRow.of (l := l) (w := w2) (own_len ho hn2.out) hne hcs'.out (hS2.out.bl)
  obtain ⟨g, cap, cs, hv1, hcap, hgb, hAR⟩ := hof
  rw [← hn2.out] at hv1 hcap hAR
  subst hv1
  have hg := Lib.hid (by have := hsz1'.out; omega : r < g)
  have hL0 : Hid (LS m K r g n (LSet w S g) (resK K l 0) w w2) := Lib.hid ⟨⟨cs, (hAR.mono fun x _ hx => .inl hx).congr fun j hj => by unfold resK; rw [if_neg (by omega)]⟩, hS2.out, fun hh => by
   rcases hh with hh | hh
   ·have h1 := hh.1; have h2 := hg.out; have h3 := hrB.out; omega
   ·omega, hg.out, Nat.lt_trans hmr'.out hg.out, by rw [hrB.out]; exact Nat.le_refl _⟩
  clear ho hb hcs' hgb hAR hS2
  go_wp2_with fail
  go_loopw [14] (fun i wl => ∃ k : Nat, k ≤ n ∧ i = .int .i64 k ∧ Hid (LS m K r g n (LSet w S g) (resK K l k) w wl)) (fun i _ => n - (intOf i).toNat)
  case atStart => exact ⟨0, by omega, rfl, hL0⟩
  clear hL0
  obtain ⟨k, hk, rfl, hL⟩ := hrel
  rename World => wl
  by_cases hkn : k < n
  ·have hkl : k < l.elems.length := by rw [elems_len, ← hn2.out]; exact hkn
   obtain ⟨x, hx⟩ : ∃ x, x = l.elems[k] := ⟨_, rfl⟩
   have hgetd : Hid (l.elems.getD k (hd0 0, .nil, .nil) = x) := Lib.hid (by rw [hx]; simp [List.getD_eq_getElem?_getD, List.getElem?_eq_getElem hkl])
   have hdx : Hid (x.2.1.dep < l.dep ∧ x.2.2.dep < l.dep) := Lib.hid (by rw [hx]; exact elems_dep l k hkl)
   obtain ⟨hh, tt, ee⟩ := x
   have hfk : resK K l k k = (hh, tt, ee) := by unfold resK; rw [if_neg (by omega)]; exact hgetd.out
   obtain ⟨cs, hr⟩ := hL.out.row
   have hel := hr.2 k hkn
   rw [hfk] at hel
   obtain ⟨pe0, Aa0, ca0, At0, ct0, Al0, cl0, q0, q3, q6, q7, q8, -, hxe, hxa, hxt, hxl⟩ := hel.facts hr.1
   simp only [Nat.add_zero] at q0
   have hL' := hL
   obtain ⟨qr, qrl⟩ := hL.out.rs.facts
   have qgl := hr.1.lt
   have hfk' := Lib.hid hfk
   clear hx hr hel hxe hxa hxt hxl hfk
   go_upto_region 6 with (fail)
   obtain ⟨wW, hwW⟩ : ∃ y, y = wl.drew := ⟨_, rfl⟩
   have hbW : Below wl.heap.size wl wW := by rw [hwW]; exact (Below.refl _ wl).drew
   have hLW := hL'.out.below hbW
   clear q0 q3 q6 q7 q8 qr qrl qgl
   obtain ⟨cs, hr⟩ := hLW.row
   have hel := hr.2 k hkn
   rw [hfk'.out] at hel
   obtain ⟨pe, Aa, ca, At, ct, Al, cl, q0, q3, q6, q7, q8, -, hxe, hxa, hxt, hxl⟩ := hel.facts hr.1
   simp only [Nat.add_zero] at q0
   obtain ⟨qr, qrl⟩ := hLW.rs.facts
   have qgl := hr.1.lt
   have hcall := Lib.hid (named2_any wW m K hLW.rs.km hh.e _ (hxe.mono (S' := Evr) fun _ _ _ => trivial))
   obtain ⟨PP, hPPe⟩ : ∃ P : World → Prop, P = fun w' => LS m K r g n (LSet w S g) (resK K l k) w w' := ⟨_, rfl⟩
   have hPP : Hid (∀ w1, Below wW.heap.size wW w1 → PP w1) := Lib.hid (fun w1 hb => by rw [hPPe]; exact hLW.below hb)
   have hgo : Hid (CRegN wW PP false wl.drew) := Lib.hid ⟨fun _ => hwW.symm, fun h => (by cases h)⟩
   have hxn := Lib.hid (ptrF_name hxe)
   have hPP2 := Lib.hid hPPe
   clear hr hel hxe hxa hxt hxl hL' hL hPPe hwW hbW hLW
   refine wp_region_tabL ((fun _ _ v => v = .agg #[.map (some m)]) ::
    (fun _ _ v => v = .pointer (some ⟨g, k * 10, none⟩)) ::
    (fun _ _ v => v = .pointer (some ⟨g, k * 10, none⟩)) ::
    (fun _ _ v => v = .pointer (some ⟨g, k * 10 + 3, none⟩)) ::
    (fun _ _ v => v = .pointer pe) ::
    (fun _ _ v => v = .tuple #[.string (strV (namedV K hh.e)), .bool (ptrF K hh.e)]) ::
    (fun _ _ v => v = .tuple #[.string (strV (namedV K hh.e)), .bool (ptrF K hh.e)]) ::
    (fun _ _ v => v = .string (strV (namedV K hh.e))) ::
    (fun _ _ v => v = .bool (ptrF K hh.e)) ::
    (fun _ _ v => v = .string (strV (namedV K hh.e))) ::
    (fun _ _ v => v = .bool (ptrF K hh.e)) :: [])
    (⟨[(2, none)], 0, [5]⟩ :: ⟨[(7, none)], 0, []⟩ :: ⟨[(22, some 1)], 0, []⟩ :: ⟨[(23, some 2)], 0, []⟩ :: ⟨[(24, some 3)], 0, [5]⟩ :: ⟨[(21, some 0), (25, some 4)], 0, []⟩ :: ⟨[(26, some 5)], 0, []⟩ :: ⟨[(20, some 6)], 0, []⟩ :: ⟨[(20, some 6)], 0, []⟩ :: ⟨[(27, some 7)], 0, []⟩ :: ⟨[(28, some 8)], 0, []⟩ :: [])
    (none :: none :: none :: none :: none :: none :: none :: none :: some 9 :: some 10 :: none :: none :: none :: none :: none :: none :: none :: none :: none :: none :: some 6 :: some 0 :: some 1 :: some 2 :: some 3 :: some 4 :: some 5 :: some 7 :: some 8 :: [])
    (fun L w' => CRegN wW PP (L 5) w') (fun i w w' => i ≠ 5 → w' = w) ?mixK6 ?okK6 ?tabK6 ?frK6 ?inK6 ?keptK6 ?startK6 ?eachK6 ?finK6
   case mixK6 => kernel_rfl
   case okK6 => kernel_rfl
   case tabK6 => kernel_rfl
   case frK6 => kernel_rfl
   case inK6 => rfl
   case keptK6 => exact ⟨fun _ _ _ _ _ _ _ _ _ _ _ h => h, fun _ _ _ _ _ _ _ _ _ _ _ h => h, fun _ _ _ _ _ _ _ _ _ _ _ h => h, fun _ _ _ _ _ _ _ _ _ _ _ h => h, fun _ _ _ _ _ _ _ _ _ _ _ h => h, fun _ _ _ _ _ _ _ _ _ _ _ h => h, fun _ _ _ _ _ _ _ _ _ _ _ h => h, fun _ _ _ _ _ _ _ _ _ _ _ h => h, fun _ _ _ _ _ _ _ _ _ _ _ h => h, fun _ _ _ _ _ _ _ _ _ _ _ h => h, fun _ _ _ _ _ _ _ _ _ _ _ h => h, trivial⟩
   case startK6 => exact hgo.out
   case eachK6 =>
    refine ⟨?_, ?_, ?_, ?_, ?_, ?_, ?_, ?_, ?_, ?_, ?_, trivial⟩
    ·intro w L f hC hLi hLd hLn hF
     obtain ⟨d2, _⟩ := hF
     have d2 : f 2 = .pointer (some ⟨r, 0, none⟩) := d2
     refine Step2.live rfl ?_
     have hw := hC.a (hLn 5 (by simp))
     rw [hw]
     have hC := hw ▸ hC
     have ev : ∀ t, evalOf f (.tmp t) = f t := fun _ => rfl
     have ec : ∀ c, evalOf f (.const c) = c := fun _ => rfl
     have ef : ∀ g, evalOf f (.func g) = .func (.func g) #[] #[] := fun _ => rfl
     refine relUpon_value ?_ hC (fun _ => rfl) rfl
     go_simp
    ·intro w L f hC hLi hLd hLn hF
     obtain ⟨d7, _⟩ := hF
     have d7 : f 7 = .pointer (some ⟨g, k * 10, none⟩) := d7
     refine Step2.live rfl ?_
     exact relUpon_value (v := f 7) rfl (hC) (fun _ => rfl) d7
    ·intro w L f hC hLi hLd hLn hF
     obtain ⟨d22, _⟩ := hF
     have d22 : f 22 = .pointer (some ⟨g, k * 10, none⟩) := d22
     refine Step2.live rfl ?_
     have ev : ∀ t, evalOf f (.tmp t) = f t := fun _ => rfl
     have ec : ∀ c, evalOf f (.const c) = c := fun _ => rfl
     have ef : ∀ g, evalOf f (.func g) = .func (.func g) #[] #[] := fun _ => rfl
     refine relUpon_value ?_ hC (fun _ => rfl) rfl
     go_simp
    ·intro w L f hC hLi hLd hLn hF
     obtain ⟨d23, _⟩ := hF
     have d23 : f 23 = .pointer (some ⟨g, k * 10, none⟩) := d23
     refine Step2.live rfl ?_
     have ev : ∀ t, evalOf f (.tmp t) = f t := fun _ => rfl
     have ec : ∀ c, evalOf f (.const c) = c := fun _ => rfl
     have ef : ∀ g, evalOf f (.func g) = .func (.func g) #[] #[] := fun _ => rfl
     refine relUpon_value ?_ hC (fun _ => rfl) rfl
     go_simp
    ·intro w L f hC hLi hLd hLn hF
     obtain ⟨d24, _⟩ := hF
     have d24 : f 24 = .pointer (some ⟨g, k * 10 + 3, none⟩) := d24
     refine Step2.live rfl ?_
     have hw := hC.a (hLn 5 (by simp))
     rw [hw]
     have hC := hw ▸ hC
     have ev : ∀ t, evalOf f (.tmp t) = f t := fun _ => rfl
     have ec : ∀ c, evalOf f (.const c) = c := fun _ => rfl
     have ef : ∀ g, evalOf f (.func g) = .func (.func g) #[] #[] := fun _ => rfl
     refine relUpon_value ?_ hC (fun _ => rfl) rfl
     go_simp
    ·intro w L f hC hLi hLd hLn hF
     obtain ⟨d21, d25, _⟩ := hF
     have d21 : f 21 = .agg #[.map (some m)] := d21
     have d25 : f 25 = .pointer pe := d25
     refine Step2.live rfl ?_
     have hw := hC.a hLi
     rw [hw]
     have ev : ∀ t, evalOf f (.tmp t) = f t := fun _ => rfl
     have ec : ∀ c, evalOf f (.const c) = c := fun _ => rfl
     have ef : ∀ g, evalOf f (.func g) = .func (.func g) #[] #[] := fun _ => rfl
     refine relUpon_call (f := 47) (args := #[.agg #[.map (some m)], .pointer pe]) (w := wW) (by go_simp) hcall.out ?_
     rintro e w1 ⟨he, hb⟩
     exact ⟨_, he, ⟨fun h => absurd h (by simp), fun _ => hPP.out w1 hb⟩, fun h => absurd rfl h, rfl⟩
    ·intro w L f hC hLi hLd hLn hF
     obtain ⟨d26, _⟩ := hF
     have d26 : f 26 = .tuple #[.string (strV (namedV K hh.e)), .bool (ptrF K hh.e)] := d26
     refine Step2.live rfl ?_
     exact relUpon_value (v := f 26) rfl (hC) (fun _ => rfl) d26
    ·intro w L f hC hLi hLd hLn hF
     obtain ⟨d20, _⟩ := hF
     have d20 : f 20 = .tuple #[.string (strV (namedV K hh.e)), .bool (ptrF K hh.e)] := d20
     refine Step2.live rfl ?_
     have ev : ∀ t, evalOf f (.tmp t) = f t := fun _ => rfl
     have ec : ∀ c, evalOf f (.const c) = c := fun _ => rfl
     have ef : ∀ g, evalOf f (.func g) = .func (.func g) #[] #[] := fun _ => rfl
     refine relUpon_value ?_ hC (fun _ => rfl) rfl
     go_simp
    ·intro w L f hC hLi hLd hLn hF
     obtain ⟨d20, _⟩ := hF
     have d20 : f 20 = .tuple #[.string (strV (namedV K hh.e)), .bool (ptrF K hh.e)] := d20
     refine Step2.live rfl ?_
     have ev : ∀ t, evalOf f (.tmp t) = f t := fun _ => rfl
     have ec : ∀ c, evalOf f (.const c) = c := fun _ => rfl
     have ef : ∀ g, evalOf f (.func g) = .func (.func g) #[] #[] := fun _ => rfl
     refine relUpon_value ?_ hC (fun _ => rfl) rfl
     go_simp
    ·intro w L f hC hLi hLd hLn hF
     obtain ⟨d27, _⟩ := hF
     have d27 : f 27 = .string (strV (namedV K hh.e)) := d27
     refine Step2.live rfl ?_
     exact relUpon_value (v := f 27) rfl (hC) (fun _ => rfl) d27
    ·intro w L f hC hLi hLd hLn hF
     obtain ⟨d28, _⟩ := hF
     have d28 : f 28 = .bool (ptrF K hh.e) := d28
     refine Step2.live rfl ?_
     exact relUpon_value (v := f 28) rfl (hC) (fun _ => rfl) d28
   intro x w' hC hV

   have hd := hC.c rfl
   have e8 : x 9 = .string (strV (namedV K hh.e)) := hV 9 _ rfl rfl
   have e9 : x 10 = .bool (ptrF K hh.e) := hV 10 _ rfl rfl
   clear hC hV
   simp only [framed]
   obtain ⟨wa, hwa⟩ : ∃ y, y = w' := ⟨_, rfl⟩
   rw [← hwa] at hd ⊢
   rw [hPP2.out] at hd
   have hLa := Lib.hid hd
   clear hwa hd hcall hPP hgo hPP2 q0 q3 q6 q7 q8 qr qrl qgl
   obtain ⟨b1, hb1⟩ : ∃ y, y = (ptrF K hh.e && hh.k == 0) := ⟨_, rfl⟩
   obtain ⟨h1, hh1⟩ : ∃ y : Hd, y = if b1 then { hh with k := 2, y := hh.e.name, e := .nil } else hh := ⟨_, rfl⟩
   have hhead : Hid ({ h1 with args := h1.args.map (argL K) } = headL K hh) := Lib.hid (by rw [hh1, hb1]; unfold headL; cases ptrF K hh.e && hh.k == 0 <;> rfl)
   have e8' := Lib.hid e8
   have e9' := Lib.hid e9
   clear e8 e9
   go_upto_region 7 with (fail)
   go_cut [9, 36] (fun _ u36 wx => Hid (u36 = .bool b1 ∧ LS m K r g n (LSet w S g) (resK K l k) w wx))
   case first =>
    have e9 := e9'.out
    obtain ⟨cs, hr⟩ := hLa.out.row
    have hel := hr.2 k hkn
    rw [hfk'.out] at hel
    obtain ⟨pe, Aa, ca, At, ct, Al, cl, q0, q3, q6, q7, q8, -, hxe, hxa, hxt, hxl⟩ := hel.facts hr.1
    simp only [Nat.add_zero] at q0
    have qgl := hr.1.lt
    clear hr hel hxe hxa hxt hxl q3 q6 q7 q8
    cases hp : ptrF K hh.e with
    | false =>
     rw [hp] at e9
     have hb2 : Hid (b1 = false) := Lib.hid (by rw [hb1, hp]; rfl)
     clear hp hb1 hh1
     go_wp2_with fail
     go_meet
     case rel => exact Lib.hid ⟨by rw [hb2.out], hLa.out⟩
    | true =>
     rw [hp] at e9
     by_cases hk0 : hh.k = 0
     ·have hk2 : ((hh.k : Int) == 0) = true := by simp; omega
      have hb2 : Hid (b1 = true) := Lib.hid (by rw [hb1, hp, hk0]; rfl)
      clear hp hb1 hh1 hk0
      go_wp2_with fail
      go_meet
      case rel => exact Lib.hid ⟨by rw [hb2.out], hLa.out⟩
     ·have hk2 : ((hh.k : Int) == 0) = false := by simp; omega
      have hb2 : Hid (b1 = false) := Lib.hid (by rw [hb1, hp]; simp [hk0])
      clear hp hb1 hh1 hk0
      go_wp2_with fail
      go_meet
      case rel => exact Lib.hid ⟨by rw [hb2.out], hLa.out⟩
   case rest =>
    obtain ⟨hu36, hLb⟩ := hcut.out
    clear hcut hLa
    replace hLb := Lib.hid hLb
    subst hu36
    go_upto_if 36 with (fail)
    go_cut [8] (fun _ wx => Hid (LS m K r g n (LSet w S g) (fun j => if j = k then (h1, tt, ee) else resK K l k j) w wx))
    case first =>
     cases hb2 : b1 with
     | false =>
      have hfin := Lib.hid (hLb.out.congr (f' := fun j => if j = k then (h1, tt, ee) else resK K l k j) fun j hj => by
       by_cases e : j = k
       ·rw [if_pos e, e, hfk'.out, hh1, hb2]; rfl
       ·rw [if_neg e])
      clear hb1 hh1 hb2
      go_wp2_with fail
      go_meet
      case rel => exact hfin
     | true =>
      rw [hb2] at hb1 hh1
      have hp : ptrF K hh.e = true := by cases hp : ptrF K hh.e with
       | true => rfl
       | false => rw [hp] at hb1; cases hb1
      have hnv : namedV K hh.e = hh.e.name := by unfold namedV; rw [if_pos hp]
      have e8 : x 9 = .string (strV hh.e.name) := by rw [e8'.out, hnv]
      rename World => wb
      obtain ⟨a1, a2, a3⟩ := hLb.out.facts hkn
      obtain ⟨u0, z0⟩ := a1 0 (by decide)
      obtain ⟨u2, z2⟩ := a1 2 (by decide)
      obtain ⟨u3, z3⟩ := a1 3 (by decide)
      simp only [Nat.add_zero] at z0
      have hA1 := hLb.out.put hkn (i := 0) (by decide) (.int .i64 2) ({ hh with k := 2 }, tt, ee) (fun cs w' hk hs hsz => by
       rw [hfk'.out] at hs
       exact hs.setK hk hsz)
      have hA2 := LS.twice (hA1.put hkn (i := 2) (by decide) (.string (strV hh.e.name)) ({ hh with k := 2, y := hh.e.name }, tt, ee) (fun cs w' hk hs hsz => by
       rw [if_pos rfl] at hs
       exact hs.setY hk hsz hh.e.name hxn.out))
      have hA3 := LS.twice (hA2.put hkn (i := 3) (by decide) (.pointer none) ({ hh with k := 2, y := hh.e.name, e := .nil }, tt, ee) (fun cs w' hk hs hsz => by
       rw [if_pos rfl] at hs
       exact hs.setE hk hsz))
      have hfin : Hid (LS m K r g n (LSet w S g) (fun j => if j = k then (h1, tt, ee) else resK K l k j) w _) := Lib.hid (by rw [hh1]; exact hA3)
      simp only [Nat.add_zero] at hfin
      clear hb1 hh1 hb2 hp hnv hA1 hA2 hA3 a1
      go_wp2_with fail
      go_meet
      case rel => exact hfin
    case rest =>
    have hLc := hcut
    clear hcut hLb hh1 hb1
    rename World => wc
    go_upto_region 11 with (fail)
    obtain ⟨wW, hwW⟩ : ∃ y, y = World.drew wc := ⟨_, rfl⟩
    have hbW : Below wc.heap.size wc wW := by rw [hwW]; exact (Below.refl _ wc).drew
    have hLW := hLc.out.below hbW
    obtain ⟨cs, hr⟩ := hLW.row
    have hel := hr.2 k hkn
    dsimp only at hel
    rw [if_pos rfl] at hel
    obtain ⟨pe, Aa, ca, At, ct, Al, cl, q0, q3, q6, q7, q8, -, hxe, hxa, hxt, hxl⟩ := hel.facts hr.1
    dsimp only at q0 q3 q6 q7 q8 hxe hxa hxt hxl
    clear q0 q3 q7 q8
    obtain ⟨qr, qrl⟩ := hLW.rs.facts
    have qgl := hr.1.lt
    have hwg := hLW.rg
    obtain ⟨nA, hnn⟩ : ∃ y, y = h1.args.length := ⟨_, rfl⟩
    have hcall0 := rargs_any wW m K hLW.rs.km h1.args _ _ hxa
    rw [← hnn] at q6 hcall0
    have hcall := Lib.hid hcall0
    obtain ⟨ZZ, hZZ⟩ : ∃ P : World → Prop, P = fun w' => LS m K r g n (LSet w S g) (fun j => if j = k then ({ h1 with args := h1.args.map (argL K) }, tt, ee) else resK K l k j) w w' := ⟨_, rfl⟩
    obtain ⟨MM, hMMe⟩ : ∃ P : World → Value → Prop, P = fun w' v => LS m K r g n (LSet w S g) (fun j => if j = k then (h1, tt, ee) else resK K l k j) w w' ∧ AgsAt w' (LSet w S g) (h1.args.map (argL K)) v := ⟨_, rfl⟩
    have hgW : g < wW.heap.size := qgl
    have hMM : Hid (∀ e w1, (∃ v', e = Ending.returned v' ∧ AgsAt w1 (fun x => LSet w S g x ∨ wW.heap.size ≤ x) (h1.args.map (argL K)) v' ∧ Below wW.heap.size wW w1) → ∃ v', e = Ending.returned v' ∧ MM w1 v') := Lib.hid (fun e w1 h => by
     obtain ⟨v', he, hv, hb⟩ := h
     rw [hMMe]
     exact ⟨v', he, hLW.below hb, hv.mono fun x _ hx => by
      rcases hx with hx | hx
      ·exact hx
      ·exact .inr (by omega)⟩)
    have hshape : Hid (∀ w1 v, MM w1 v → ∃ vA vn vc, v = .slice vA vn vc) := Lib.hid (fun w1 v h => by
     rw [hMMe] at h
     obtain ⟨A', c', us', e', -⟩ := h.2
     exact ⟨A', _, c', e'⟩)
    have hfact : Hid (∀ w1 v, MM w1 v → (∃ u, w1.cell? ⟨g, k * 10 + 6, none⟩ = some u) ∧ g < w1.heap.size ∧ ∀ i, w1.frozen? ⟨g, i, none⟩ = false) := Lib.hid (fun w1 v h => by
     rw [hMMe] at h
     obtain ⟨a1, a2, a3⟩ := h.1.facts hkn
     exact ⟨a1 6 (by decide), a2, a3⟩)
    have hZ : Hid (∀ w1 v, MM w1 v → ZZ (w1.setCell ⟨g, k * 10 + 6, none⟩ v)) := Lib.hid (fun w1 v h => by
     rw [hMMe] at h
     rw [hZZ]
     obtain ⟨a1, a2⟩ := h
     have a2' := a2
     obtain ⟨A', c', us', e', -⟩ := a2
     subst e'
     refine LS.twice (x := (h1, tt, ee)) (a1.put hkn (i := 6) (by decide) _ ({ h1 with args := h1.args.map (argL K) }, tt, ee) (fun cs w' hk hs hsz => ?_))
     rw [if_pos rfl] at hs
     exact hs.setA hk hsz a2')
    have hgo : Hid (CReg wW ZZ false false (World.drew wc)) := Lib.hid ⟨fun h => (by cases h), fun _ => hwW.symm, fun h => (by cases h)⟩
    have hZZ2 := Lib.hid hZZ
    clear hr hel hxe hxa hxt hxl hLc hZZ hMMe hwW hbW hLW hcall0 hnn
    refine wp_region_tabL ((fun _ _ v => v = .pointer (some ⟨g, k * 10, none⟩)) ::
     (fun _ _ v => v = .agg #[.map (some m)]) ::
     (fun _ _ v => v = .pointer (some ⟨g, k * 10, none⟩)) ::
     (fun _ _ v => v = .pointer (some ⟨g, k * 10, none⟩)) ::
     (fun _ _ v => v = .pointer (some ⟨g, k * 10 + 6, none⟩)) ::
     (fun _ _ v => v = .slice Aa nA ca) ::
     (fun L w v => L 6 = true → L 9 = false → MM w v) ::
     (fun _ _ v => v = .pointer (some ⟨g, k * 10, none⟩)) ::
     (fun _ _ v => v = .pointer (some ⟨g, k * 10 + 6, none⟩)) ::
     (fun _ _ _ => True) :: [])
     (⟨[(7, none)], 0, []⟩ :: ⟨[(2, none)], 0, [6]⟩ :: ⟨[(7, none)], 0, []⟩ :: ⟨[(49, some 2)], 0, []⟩ :: ⟨[(50, some 3)], 0, []⟩ :: ⟨[(51, some 4)], 0, [6]⟩ :: ⟨[(48, some 1), (52, some 5)], 0, [9]⟩ :: ⟨[(47, some 0)], 0, [9]⟩ :: ⟨[(54, some 7)], 0, [9]⟩ :: ⟨[(55, some 8), (53, some 6)], 0, []⟩ :: [])
     (none :: none :: none :: none :: none :: none :: none :: none :: none :: none :: none :: none :: none :: none :: none :: none :: none :: none :: none :: none :: none :: none :: none :: none :: none :: none :: none :: none :: none :: none :: none :: none :: none :: none :: none :: none :: none :: none :: none :: none :: none :: none :: none :: none :: none :: none :: none :: some 0 :: some 1 :: some 2 :: some 3 :: some 4 :: some 5 :: some 6 :: some 7 :: some 8 :: [])
     (fun L w' => CReg wW ZZ (L 6) (L 9) w') (fun i w w' => i ≠ 6 → i ≠ 9 → w' = w) ?mixK11 ?okK11 ?tabK11 ?frK11 ?inK11 ?keptK11 ?startK11 ?eachK11 ?finK11
    case mixK11 => kernel_rfl
    case okK11 => kernel_rfl
    case tabK11 => kernel_rfl
    case frK11 => kernel_rfl
    case inK11 => rfl
    case keptK11 => exact ⟨fun _ _ _ _ _ _ _ _ _ _ _ h => h, fun _ _ _ _ _ _ _ _ _ _ _ h => h, fun _ _ _ _ _ _ _ _ _ _ _ h => h, fun _ _ _ _ _ _ _ _ _ _ _ h => h, fun _ _ _ _ _ _ _ _ _ _ _ h => h, fun _ _ _ _ _ _ _ _ _ _ _ h => h, fun i hne hr L w w' v hLi hC hC' hG h h1 h2 => by
       have n6 : (6 == i) = false := by simpa using fun e => hne e.symm
       have a1 : L 6 = true := by simpa [n6] using h1
       have n9 : i ≠ 9 := fun e => by subst e; simp at h2
       have n9' : (9 == i) = false := by simpa using fun e => n9 e.symm
       have a2 : L 9 = false := by simpa [n9'] using h2
       rw [hG (fun e => hne e) n9]
       exact h a1 a2, fun _ _ _ _ _ _ _ _ _ _ _ h => h, fun _ _ _ _ _ _ _ _ _ _ _ h => h, fun _ _ _ _ _ _ _ _ _ _ _ h => h, trivial⟩
    case startK11 => exact hgo.out
    case eachK11 =>
     refine ⟨?_, ?_, ?_, ?_, ?_, ?_, ?_, ?_, ?_, ?_, trivial⟩
     ·intro w L f hC hLi hLd hLn hF
      obtain ⟨d7, _⟩ := hF
      have d7 : f 7 = .pointer (some ⟨g, k * 10, none⟩) := d7
      refine Step2.live rfl ?_
      exact relUpon_value (v := f 7) rfl (hC) (fun _ _ => rfl) d7
     ·intro w L f hC hLi hLd hLn hF
      obtain ⟨d2, _⟩ := hF
      have d2 : f 2 = .pointer (some ⟨r, 0, none⟩) := d2
      refine Step2.live rfl ?_
      have hw := hC.a (hLn 6 (by simp))
      rw [hw]
      have hC := hw ▸ hC
      have ev : ∀ t, evalOf f (.tmp t) = f t := fun _ => rfl
      have ec : ∀ c, evalOf f (.const c) = c := fun _ => rfl
      have ef : ∀ g, evalOf f (.func g) = .func (.func g) #[] #[] := fun _ => rfl
      refine relUpon_value ?_ hC (fun _ _ => rfl) rfl
      go_simp
     ·intro w L f hC hLi hLd hLn hF
      obtain ⟨d7, _⟩ := hF
      have d7 : f 7 = .pointer (some ⟨g, k * 10, none⟩) := d7
      refine Step2.live rfl ?_
      exact relUpon_value (v := f 7) rfl (hC) (fun _ _ => rfl) d7
     ·intro w L f hC hLi hLd hLn hF
      obtain ⟨d49, _⟩ := hF
      have d49 : f 49 = .pointer (some ⟨g, k * 10, none⟩) := d49
      refine Step2.live rfl ?_
      have ev : ∀ t, evalOf f (.tmp t) = f t := fun _ => rfl
      have ec : ∀ c, evalOf f (.const c) = c := fun _ => rfl
      have ef : ∀ g, evalOf f (.func g) = .func (.func g) #[] #[] := fun _ => rfl
      refine relUpon_value ?_ hC (fun _ _ => rfl) rfl
      go_simp
     ·intro w L f hC hLi hLd hLn hF
      obtain ⟨d50, _⟩ := hF
      have d50 : f 50 = .pointer (some ⟨g, k * 10, none⟩) := d50
      refine Step2.live rfl ?_
      have ev : ∀ t, evalOf f (.tmp t) = f t := fun _ => rfl
      have ec : ∀ c, evalOf f (.const c) = c := fun _ => rfl
      have ef : ∀ g, evalOf f (.func g) = .func (.func g) #[] #[] := fun _ => rfl
      refine relUpon_value ?_ hC (fun _ _ => rfl) rfl
      go_simp
     ·intro w L f hC hLi hLd hLn hF
      obtain ⟨d51, _⟩ := hF
      have d51 : f 51 = .pointer (some ⟨g, k * 10 + 6, none⟩) := d51
      refine Step2.live rfl ?_
      have hw := hC.a (hLn 6 (by simp))
      rw [hw]
      have hC := hw ▸ hC
      have ev : ∀ t, evalOf f (.tmp t) = f t := fun _ => rfl
      have ec : ∀ c, evalOf f (.const c) = c := fun _ => rfl
      have ef : ∀ g, evalOf f (.func g) = .func (.func g) #[] #[] := fun _ => rfl
      refine relUpon_value ?_ hC (fun _ _ => rfl) rfl
      go_simp
     ·intro w L f hC hLi hLd hLn hF
      obtain ⟨d48, d52, _⟩ := hF
      have d48 : f 48 = .agg #[.map (some m)] := d48
      have d52 : f 52 = .slice Aa nA ca := d52
      refine Step2.live rfl ?_
      have hw := hC.a hLi
      rw [hw]
      have ev : ∀ t, evalOf f (.tmp t) = f t := fun _ => rfl
      have ec : ∀ c, evalOf f (.const c) = c := fun _ => rfl
      have ef : ∀ g, evalOf f (.func g) = .func (.func g) #[] #[] := fun _ => rfl
      refine relUpon_call (f := 53) (args := #[.agg #[.map (some m)], .slice Aa nA ca]) (w := wW) (by go_simp) hcall.out ?_
      rintro e w1 h1
      obtain ⟨v', he, h2⟩ := hMM.out e w1 h1
      exact ⟨v', he, ⟨fun h => absurd h (by simp [hLn 9 (by simp)]), fun h => absurd h (by simp), fun h => absurd h (by simp [hLn 9 (by simp)])⟩, fun h => absurd rfl h, fun _ _ => h2⟩
     ·intro w L f hC hLi hLd hLn hF
      obtain ⟨d47, _⟩ := hF
      have d47 : f 47 = .pointer (some ⟨g, k * 10, none⟩) := d47
      refine Step2.live rfl ?_
      have ev : ∀ t, evalOf f (.tmp t) = f t := fun _ => rfl
      have ec : ∀ c, evalOf f (.const c) = c := fun _ => rfl
      have ef : ∀ g, evalOf f (.func g) = .func (.func g) #[] #[] := fun _ => rfl
      refine relUpon_value ?_ hC (fun _ _ => rfl) rfl
      go_simp
     ·intro w L f hC hLi hLd hLn hF
      obtain ⟨d54, _⟩ := hF
      have d54 : f 54 = .pointer (some ⟨g, k * 10, none⟩) := d54
      refine Step2.live rfl ?_
      have ev : ∀ t, evalOf f (.tmp t) = f t := fun _ => rfl
      have ec : ∀ c, evalOf f (.const c) = c := fun _ => rfl
      have ef : ∀ g, evalOf f (.func g) = .func (.func g) #[] #[] := fun _ => rfl
      refine relUpon_value ?_ hC (fun _ _ => rfl) rfl
      go_simp
     ·intro w L f hC hLi hLd hLn hF
      obtain ⟨d55, d53, _⟩ := hF
      have d55 : f 55 = .pointer (some ⟨g, k * 10 + 6, none⟩) := d55
      refine Step2.live rfl ?_
      have l6 : L 6 = true := hLd 6 (by decide)
      have hm := d53 l6 hLi
      obtain ⟨vA, vn, vc, hsh⟩ := hshape.out w _ hm
      rw [hsh] at hm
      obtain ⟨hcell, hlt, hfz⟩ := hfact.out w _ hm
      obtain ⟨uo, hcell⟩ := hcell
      have ev : ∀ t, evalOf f (.tmp t) = f t := fun _ => rfl
      have ec : ∀ c, evalOf f (.const c) = c := fun _ => rfl
      have ef : ∀ g, evalOf f (.func g) = .func (.func g) #[] #[] := fun _ => rfl
      refine relUpon_skip (w' := w.setCell ⟨g, k * 10 + 6, none⟩ (.slice vA vn vc)) ?_ ⟨fun _ => by simp [l6], fun h => absurd h (by simp [l6]), fun _ => hZ.out w _ hm⟩ (fun _ h => absurd rfl h) trivial
      go_simp
    intro x w' hC hV

    have hd := hC.c rfl
    rw [hZZ2.out] at hd
    clear hC hV hcall hMM hshape hfact hZ hgo hZZ2 q6 qr qrl qgl hgW hwg
    simp only [framed]
    obtain ⟨wd, hwd⟩ : ∃ y, y = w' := ⟨_, rfl⟩
    rw [← hwd] at hd ⊢
    clear hwd
    clear wc wW
    obtain ⟨wc, hwc⟩ : ∃ y, y = wd := ⟨_, rfl⟩
    rw [← hwc] at hd ⊢
    have hLc := Lib.hid hd
    clear hwc hd ZZ MM
    rw [hhead.out] at hLc
    obtain ⟨h2, hh2⟩ : ∃ y, y = headL K hh := ⟨_, rfl⟩
    rw [← hh2] at hLc
    have hh2' := Lib.hid hh2
    clear hh2
    go_upto_region 12 with (fail)
    obtain ⟨wW, hwW⟩ : ∃ y, y = World.drew wc := ⟨_, rfl⟩
    have hbW : Below wc.heap.size wc wW := by rw [hwW]; exact (Below.refl _ wc).drew
    have hLW := hLc.out.below hbW
    obtain ⟨cs, hr⟩ := hLW.row
    have hel := hr.2 k hkn
    dsimp only at hel
    rw [if_pos rfl] at hel
    obtain ⟨pe, Aa, ca, At, ct, Al, cl, q0, q3, q6, q7, q8, -, hxe, hxa, hxt, hxl⟩ := hel.facts hr.1
    dsimp only at q0 q3 q6 q7 q8 hxe hxa hxt hxl
    clear q0 q3 q6 q8
    obtain ⟨qr, qrl⟩ := hLW.rs.facts
    have qgl := hr.1.lt
    have hwg := hLW.rg
    obtain ⟨nT, hnn⟩ : ∃ y, y = tt.len := ⟨_, rfl⟩
    have hcall0 := hih.out tt hdx.out.1 wW _ _ hLW.rs.km hxt
    rw [← hnn] at q7 hcall0
    have hcall := Lib.hid hcall0
    obtain ⟨ZZ, hZZ⟩ : ∃ P : World → Prop, P = fun w' => LS m K r g n (LSet w S g) (fun j => if j = k then (h2, listP K tt, ee) else resK K l k j) w w' := ⟨_, rfl⟩
    obtain ⟨MM, hMMe⟩ : ∃ P : World → Value → Prop, P = fun w' v => LS m K r g n (LSet w S g) (fun j => if j = k then (h2, tt, ee) else resK K l k j) w w' ∧ SlAt w' (LSet w S g) (listP K tt) v := ⟨_, rfl⟩
    have hgW : g < wW.heap.size := qgl
    have hMM : Hid (∀ e w1, (∃ v', e = Ending.returned v' ∧ SlAt w1 (fun x => LSet w S g x ∨ wW.heap.size ≤ x) (listP K tt) v' ∧ Below wW.heap.size wW w1) → ∃ v', e = Ending.returned v' ∧ MM w1 v') := Lib.hid (fun e w1 h => by
     obtain ⟨v', he, hv, hb⟩ := h
     rw [hMMe]
     exact ⟨v', he, hLW.below hb, hv.mono fun x _ hx => by
      rcases hx with hx | hx
      ·exact hx
      ·exact .inr (by omega)⟩)
    have hshape : Hid (∀ w1 v, MM w1 v → ∃ vA vn vc, v = .slice vA vn vc) := Lib.hid (fun w1 v h => by
     rw [hMMe] at h
     obtain ⟨A', c', us', e', -⟩ := h.2
     exact ⟨A', _, c', e'⟩)
    have hfact : Hid (∀ w1 v, MM w1 v → (∃ u, w1.cell? ⟨g, k * 10 + 7, none⟩ = some u) ∧ g < w1.heap.size ∧ ∀ i, w1.frozen? ⟨g, i, none⟩ = false) := Lib.hid (fun w1 v h => by
     rw [hMMe] at h
     obtain ⟨a1, a2, a3⟩ := h.1.facts hkn
     exact ⟨a1 7 (by decide), a2, a3⟩)
    have hZ : Hid (∀ w1 v, MM w1 v → ZZ (w1.setCell ⟨g, k * 10 + 7, none⟩ v)) := Lib.hid (fun w1 v h => by
     rw [hMMe] at h
     rw [hZZ]
     obtain ⟨a1, a2⟩ := h
     have a2' := a2
     obtain ⟨A', c', us', e', -⟩ := a2
     subst e'
     refine LS.twice (x := (h2, tt, ee)) (a1.put hkn (i := 7) (by decide) _ (h2, listP K tt, ee) (fun cs w' hk hs hsz => ?_))
     rw [if_pos rfl] at hs
     exact hs.setT hk hsz a2')
    have hgo : Hid (CReg wW ZZ false false (World.drew wc)) := Lib.hid ⟨fun h => (by cases h), fun _ => hwW.symm, fun h => (by cases h)⟩
    have hZZ2 := Lib.hid hZZ
    clear hr hel hxe hxa hxt hxl hLc hZZ hMMe hwW hbW hLW hcall0 hnn
    refine wp_region_tabL ((fun _ _ v => v = .pointer (some ⟨g, k * 10, none⟩)) ::
     (fun _ _ v => v = .agg #[.map (some m)]) ::
     (fun _ _ v => v = .pointer (some ⟨g, k * 10, none⟩)) ::
     (fun _ _ v => v = .pointer (some ⟨g, k * 10, none⟩)) ::
     (fun _ _ v => v = .pointer (some ⟨g, k * 10 + 7, none⟩)) ::
     (fun _ _ v => v = .slice At nT ct) ::
     (fun L w v => L 6 = true → L 9 = false → MM w v) ::
     (fun _ _ v => v = .pointer (some ⟨g, k * 10, none⟩)) ::
     (fun _ _ v => v = .pointer (some ⟨g, k * 10 + 7, none⟩)) ::
     (fun _ _ _ => True) :: [])
     (⟨[(7, none)], 0, []⟩ :: ⟨[(2, none)], 0, [6]⟩ :: ⟨[(7, none)], 0, []⟩ :: ⟨[(58, some 2)], 0, []⟩ :: ⟨[(59, some 3)], 0, []⟩ :: ⟨[(60, some 4)], 0, [6]⟩ :: ⟨[(57, some 1), (61, some 5)], 0, [9]⟩ :: ⟨[(56, some 0)], 0, [9]⟩ :: ⟨[(63, some 7)], 0, [9]⟩ :: ⟨[(64, some 8), (62, some 6)], 0, []⟩ :: [])
     (none :: none :: none :: none :: none :: none :: none :: none :: none :: none :: none :: none :: none :: none :: none :: none :: none :: none :: none :: none :: none :: none :: none :: none :: none :: none :: none :: none :: none :: none :: none :: none :: none :: none :: none :: none :: none :: none :: none :: none :: none :: none :: none :: none :: none :: none :: none :: none :: none :: none :: none :: none :: none :: none :: none :: none :: some 0 :: some 1 :: some 2 :: some 3 :: some 4 :: some 5 :: some 6 :: some 7 :: some 8 :: [])
     (fun L w' => CReg wW ZZ (L 6) (L 9) w') (fun i w w' => i ≠ 6 → i ≠ 9 → w' = w) ?mixK12 ?okK12 ?tabK12 ?frK12 ?inK12 ?keptK12 ?startK12 ?eachK12 ?finK12
    case mixK12 => kernel_rfl
    case okK12 => kernel_rfl
    case tabK12 => kernel_rfl
    case frK12 => kernel_rfl
    case inK12 => rfl
    case keptK12 => exact ⟨fun _ _ _ _ _ _ _ _ _ _ _ h => h, fun _ _ _ _ _ _ _ _ _ _ _ h => h, fun _ _ _ _ _ _ _ _ _ _ _ h => h, fun _ _ _ _ _ _ _ _ _ _ _ h => h, fun _ _ _ _ _ _ _ _ _ _ _ h => h, fun _ _ _ _ _ _ _ _ _ _ _ h => h, fun i hne hr L w w' v hLi hC hC' hG h h1 h2 => by
       have n6 : (6 == i) = false := by simpa using fun e => hne e.symm
       have a1 : L 6 = true := by simpa [n6] using h1
       have n9 : i ≠ 9 := fun e => by subst e; simp at h2
       have n9' : (9 == i) = false := by simpa using fun e => n9 e.symm
       have a2 : L 9 = false := by simpa [n9'] using h2
       rw [hG (fun e => hne e) n9]
       exact h a1 a2, fun _ _ _ _ _ _ _ _ _ _ _ h => h, fun _ _ _ _ _ _ _ _ _ _ _ h => h, fun _ _ _ _ _ _ _ _ _ _ _ h => h, trivial⟩
    case startK12 => exact hgo.out
    case eachK12 =>
     refine ⟨?_, ?_, ?_, ?_, ?_, ?_, ?_, ?_, ?_, ?_, trivial⟩
     ·intro w L f hC hLi hLd hLn hF
      obtain ⟨d7, _⟩ := hF
      have d7 : f 7 = .pointer (some ⟨g, k * 10, none⟩) := d7
      refine Step2.live rfl ?_
      exact relUpon_value (v := f 7) rfl (hC) (fun _ _ => rfl) d7
     ·intro w L f hC hLi hLd hLn hF
      obtain ⟨d2, _⟩ := hF
      have d2 : f 2 = .pointer (some ⟨r, 0, none⟩) := d2
      refine Step2.live rfl ?_
      have hw := hC.a (hLn 6 (by simp))
      rw [hw]
      have hC := hw ▸ hC
      have ev : ∀ t, evalOf f (.tmp t) = f t := fun _ => rfl
      have ec : ∀ c, evalOf f (.const c) = c := fun _ => rfl
      have ef : ∀ g, evalOf f (.func g) = .func (.func g) #[] #[] := fun _ => rfl
      refine relUpon_value ?_ hC (fun _ _ => rfl) rfl
      go_simp
     ·intro w L f hC hLi hLd hLn hF
      obtain ⟨d7, _⟩ := hF
      have d7 : f 7 = .pointer (some ⟨g, k * 10, none⟩) := d7
      refine Step2.live rfl ?_
      exact relUpon_value (v := f 7) rfl (hC) (fun _ _ => rfl) d7
     ·intro w L f hC hLi hLd hLn hF
      obtain ⟨d58, _⟩ := hF
      have d58 : f 58 = .pointer (some ⟨g, k * 10, none⟩) := d58
      refine Step2.live rfl ?_
      have ev : ∀ t, evalOf f (.tmp t) = f t := fun _ => rfl
      have ec : ∀ c, evalOf f (.const c) = c := fun _ => rfl
      have ef : ∀ g, evalOf f (.func g) = .func (.func g) #[] #[] := fun _ => rfl
      refine relUpon_value ?_ hC (fun _ _ => rfl) rfl
      go_simp
     ·intro w L f hC hLi hLd hLn hF
      obtain ⟨d59, _⟩ := hF
      have d59 : f 59 = .pointer (some ⟨g, k * 10, none⟩) := d59
      refine Step2.live rfl ?_
      have ev : ∀ t, evalOf f (.tmp t) = f t := fun _ => rfl
      have ec : ∀ c, evalOf f (.const c) = c := fun _ => rfl
      have ef : ∀ g, evalOf f (.func g) = .func (.func g) #[] #[] := fun _ => rfl
      refine relUpon_value ?_ hC (fun _ _ => rfl) rfl
      go_simp
     ·intro w L f hC hLi hLd hLn hF
      obtain ⟨d60, _⟩ := hF
      have d60 : f 60 = .pointer (some ⟨g, k * 10 + 7, none⟩) := d60
      refine Step2.live rfl ?_
      have hw := hC.a (hLn 6 (by simp))
      rw [hw]
      have hC := hw ▸ hC
      have ev : ∀ t, evalOf f (.tmp t) = f t := fun _ => rfl
      have ec : ∀ c, evalOf f (.const c) = c := fun _ => rfl
      have ef : ∀ g, evalOf f (.func g) = .func (.func g) #[] #[] := fun _ => rfl
      refine relUpon_value ?_ hC (fun _ _ => rfl) rfl
      go_simp
     ·intro w L f hC hLi hLd hLn hF
      obtain ⟨d57, d61, _⟩ := hF
      have d57 : f 57 = .agg #[.map (some m)] := d57
      have d61 : f 61 = .slice At nT ct := d61
      refine Step2.live rfl ?_
      have hw := hC.a hLi
      rw [hw]
      have ev : ∀ t, evalOf f (.tmp t) = f t := fun _ => rfl
      have ec : ∀ c, evalOf f (.const c) = c := fun _ => rfl
      have ef : ∀ g, evalOf f (.func g) = .func (.func g) #[] #[] := fun _ => rfl
      refine relUpon_call (f := 28) (args := #[.agg #[.map (some m)], .slice At nT ct]) (w := wW) (by go_simp) hcall.out ?_
      rintro e w1 h1
      obtain ⟨v', he, h2⟩ := hMM.out e w1 h1
      exact ⟨v', he, ⟨fun h => absurd h (by simp [hLn 9 (by simp)]), fun h => absurd h (by simp), fun h => absurd h (by simp [hLn 9 (by simp)])⟩, fun h => absurd rfl h, fun _ _ => h2⟩
     ·intro w L f hC hLi hLd hLn hF
      obtain ⟨d56, _⟩ := hF
      have d56 : f 56 = .pointer (some ⟨g, k * 10, none⟩) := d56
      refine Step2.live rfl ?_
      have ev : ∀ t, evalOf f (.tmp t) = f t := fun _ => rfl
      have ec : ∀ c, evalOf f (.const c) = c := fun _ => rfl
      have ef : ∀ g, evalOf f (.func g) = .func (.func g) #[] #[] := fun _ => rfl
      refine relUpon_value ?_ hC (fun _ _ => rfl) rfl
      go_simp
     ·intro w L f hC hLi hLd hLn hF
      obtain ⟨d63, _⟩ := hF
      have d63 : f 63 = .pointer (some ⟨g, k * 10, none⟩) := d63
      refine Step2.live rfl ?_
      have ev : ∀ t, evalOf f (.tmp t) = f t := fun _ => rfl
      have ec : ∀ c, evalOf f (.const c) = c := fun _ => rfl
      have ef : ∀ g, evalOf f (.func g) = .func (.func g) #[] #[] := fun _ => rfl
      refine relUpon_value ?_ hC (fun _ _ => rfl) rfl
      go_simp
     ·intro w L f hC hLi hLd hLn hF
      obtain ⟨d64, d62, _⟩ := hF
      have d64 : f 64 = .pointer (some ⟨g, k * 10 + 7, none⟩) := d64
      refine Step2.live rfl ?_
      have l6 : L 6 = true := hLd 6 (by decide)
      have hm := d62 l6 hLi
      obtain ⟨vA, vn, vc, hsh⟩ := hshape.out w _ hm
      rw [hsh] at hm
      obtain ⟨hcell, hlt, hfz⟩ := hfact.out w _ hm
      obtain ⟨uo, hcell⟩ := hcell
      have ev : ∀ t, evalOf f (.tmp t) = f t := fun _ => rfl
      have ec : ∀ c, evalOf f (.const c) = c := fun _ => rfl
      have ef : ∀ g, evalOf f (.func g) = .func (.func g) #[] #[] := fun _ => rfl
      refine relUpon_skip (w' := w.setCell ⟨g, k * 10 + 7, none⟩ (.slice vA vn vc)) ?_ ⟨fun _ => by simp [l6], fun h => absurd h (by simp [l6]), fun _ => hZ.out w _ hm⟩ (fun _ h => absurd rfl h) trivial
      go_simp
    intro x w' hC hV

    have hd := hC.c rfl
    rw [hZZ2.out] at hd
    clear hC hV hcall hMM hshape hfact hZ hgo hZZ2 q7 qr qrl qgl hgW hwg
    simp only [framed]
    obtain ⟨wd, hwd⟩ : ∃ y, y = w' := ⟨_, rfl⟩
    rw [← hwd] at hd ⊢
    clear hwd
    clear wc wW
    obtain ⟨wc, hwc⟩ : ∃ y, y = wd := ⟨_, rfl⟩
    rw [← hwc] at hd ⊢
    have hLc := Lib.hid hd
    clear hwc hd ZZ MM
    go_upto_region 13 with (fail)
    obtain ⟨wW, hwW⟩ : ∃ y, y = World.drew wc := ⟨_, rfl⟩
    have hbW : Below wc.heap.size wc wW := by rw [hwW]; exact (Below.refl _ wc).drew
    have hLW := hLc.out.below hbW
    obtain ⟨cs, hr⟩ := hLW.row
    have hel := hr.2 k hkn
    dsimp only at hel
    rw [if_pos rfl] at hel
    obtain ⟨pe, Aa, ca, At, ct, Al, cl, q0, q3, q6, q7, q8, -, hxe, hxa, hxt, hxl⟩ := hel.facts hr.1
    dsimp only at q0 q3 q6 q7 q8 hxe hxa hxt hxl
    clear q0 q3 q6 q7
    obtain ⟨qr, qrl⟩ := hLW.rs.facts
    have qgl := hr.1.lt
    have hwg := hLW.rg
    obtain ⟨nE, hnn⟩ : ∃ y, y = ee.len := ⟨_, rfl⟩
    have hcall0 := hih.out ee hdx.out.2 wW _ _ hLW.rs.km hxl
    rw [← hnn] at q8 hcall0
    have hcall := Lib.hid hcall0
    obtain ⟨ZZ, hZZ⟩ : ∃ P : World → Prop, P = fun w' => LS m K r g n (LSet w S g) (fun j => if j = k then (h2, listP K tt, listP K ee) else resK K l k j) w w' := ⟨_, rfl⟩
    obtain ⟨MM, hMMe⟩ : ∃ P : World → Value → Prop, P = fun w' v => LS m K r g n (LSet w S g) (fun j => if j = k then (h2, listP K tt, ee) else resK K l k j) w w' ∧ SlAt w' (LSet w S g) (listP K ee) v := ⟨_, rfl⟩
    have hgW : g < wW.heap.size := qgl
    have hMM : Hid (∀ e w1, (∃ v', e = Ending.returned v' ∧ SlAt w1 (fun x => LSet w S g x ∨ wW.heap.size ≤ x) (listP K ee) v' ∧ Below wW.heap.size wW w1) → ∃ v', e = Ending.returned v' ∧ MM w1 v') := Lib.hid (fun e w1 h => by
     obtain ⟨v', he, hv, hb⟩ := h
     rw [hMMe]
     exact ⟨v', he, hLW.below hb, hv.mono fun x _ hx => by
      rcases hx with hx | hx
      ·exact hx
      ·exact .inr (by omega)⟩)
    have hshape : Hid (∀ w1 v, MM w1 v → ∃ vA vn vc, v = .slice vA vn vc) := Lib.hid (fun w1 v h => by
     rw [hMMe] at h
     obtain ⟨A', c', us', e', -⟩ := h.2
     exact ⟨A', _, c', e'⟩)
    have hfact : Hid (∀ w1 v, MM w1 v → (∃ u, w1.cell? ⟨g, k * 10 + 8, none⟩ = some u) ∧ g < w1.heap.size ∧ ∀ i, w1.frozen? ⟨g, i, none⟩ = false) := Lib.hid (fun w1 v h => by
     rw [hMMe] at h
     obtain ⟨a1, a2, a3⟩ := h.1.facts hkn
     exact ⟨a1 8 (by decide), a2, a3⟩)
    have hZ : Hid (∀ w1 v, MM w1 v → ZZ (w1.setCell ⟨g, k * 10 + 8, none⟩ v)) := Lib.hid (fun w1 v h => by
     rw [hMMe] at h
     rw [hZZ]
     obtain ⟨a1, a2⟩ := h
     have a2' := a2
     obtain ⟨A', c', us', e', -⟩ := a2
     subst e'
     refine LS.twice (x := (h2, listP K tt, ee)) (a1.put hkn (i := 8) (by decide) _ (h2, listP K tt, listP K ee) (fun cs w' hk hs hsz => ?_))
     rw [if_pos rfl] at hs
     exact hs.setL hk hsz a2')
    have hgo : Hid (CReg wW ZZ false false (World.drew wc)) := Lib.hid ⟨fun h => (by cases h), fun _ => hwW.symm, fun h => (by cases h)⟩
    have hZZ2 := Lib.hid hZZ
    clear hr hel hxe hxa hxt hxl hLc hZZ hMMe hwW hbW hLW hcall0 hnn
    refine wp_region_tabL ((fun _ _ v => v = .pointer (some ⟨g, k * 10, none⟩)) ::
     (fun _ _ v => v = .agg #[.map (some m)]) ::
     (fun _ _ v => v = .pointer (some ⟨g, k * 10, none⟩)) ::
     (fun _ _ v => v = .pointer (some ⟨g, k * 10, none⟩)) ::
     (fun _ _ v => v = .pointer (some ⟨g, k * 10 + 8, none⟩)) ::
     (fun _ _ v => v = .slice Al nE cl) ::
     (fun L w v => L 6 = true → L 9 = false → MM w v) ::
     (fun _ _ v => v = .pointer (some ⟨g, k * 10, none⟩)) ::
     (fun _ _ v => v = .pointer (some ⟨g, k * 10 + 8, none⟩)) ::
     (fun _ _ _ => True) :: [])
     (⟨[(7, none)], 0, []⟩ :: ⟨[(2, none)], 0, [6]⟩ :: ⟨[(7, none)], 0, []⟩ :: ⟨[(67, some 2)], 0, []⟩ :: ⟨[(68, some 3)], 0, []⟩ :: ⟨[(69, some 4)], 0, [6]⟩ :: ⟨[(66, some 1), (70, some 5)], 0, [9]⟩ :: ⟨[(65, some 0)], 0, [9]⟩ :: ⟨[(72, some 7)], 0, [9]⟩ :: ⟨[(73, some 8), (71, some 6)], 0, []⟩ :: [])
     (none :: none :: none :: none :: none :: none :: none :: none :: none :: none :: none :: none :: none :: none :: none :: none :: none :: none :: none :: none :: none :: none :: none :: none :: none :: none :: none :: none :: none :: none :: none :: none :: none :: none :: none :: none :: none :: none :: none :: none :: none :: none :: none :: none :: none :: none :: none :: none :: none :: none :: none :: none :: none :: none :: none :: none :: none :: none :: none :: none :: none :: none :: none :: none :: none :: some 0 :: some 1 :: some 2 :: some 3 :: some 4 :: some 5 :: some 6 :: some 7 :: some 8 :: [])
     (fun L w' => CReg wW ZZ (L 6) (L 9) w') (fun i w w' => i ≠ 6 → i ≠ 9 → w' = w) ?mixK13 ?okK13 ?tabK13 ?frK13 ?inK13 ?keptK13 ?startK13 ?eachK13 ?finK13
    case mixK13 => kernel_rfl
    case okK13 => kernel_rfl
    case tabK13 => kernel_rfl
    case frK13 => kernel_rfl
    case inK13 => rfl
    case keptK13 => exact ⟨fun _ _ _ _ _ _ _ _ _ _ _ h => h, fun _ _ _ _ _ _ _ _ _ _ _ h => h, fun _ _ _ _ _ _ _ _ _ _ _ h => h, fun _ _ _ _ _ _ _ _ _ _ _ h => h, fun _ _ _ _ _ _ _ _ _ _ _ h => h, fun _ _ _ _ _ _ _ _ _ _ _ h => h, fun i hne hr L w w' v hLi hC hC' hG h h1 h2 => by
       have n6 : (6 == i) = false := by simpa using fun e => hne e.symm
       have a1 : L 6 = true := by simpa [n6] using h1
       have n9 : i ≠ 9 := fun e => by subst e; simp at h2
       have n9' : (9 == i) = false := by simpa using fun e => n9 e.symm
       have a2 : L 9 = false := by simpa [n9'] using h2
       rw [hG (fun e => hne e) n9]
       exact h a1 a2, fun _ _ _ _ _ _ _ _ _ _ _ h => h, fun _ _ _ _ _ _ _ _ _ _ _ h => h, fun _ _ _ _ _ _ _ _ _ _ _ h => h, trivial⟩
    case startK13 => exact hgo.out
    case eachK13 =>
     refine ⟨?_, ?_, ?_, ?_, ?_, ?_, ?_, ?_, ?_, ?_, trivial⟩
     ·intro w L f hC hLi hLd hLn hF
      obtain ⟨d7, _⟩ := hF
      have d7 : f 7 = .pointer (some ⟨g, k * 10, none⟩) := d7
      refine Step2.live rfl ?_
      exact relUpon_value (v := f 7) rfl (hC) (fun _ _ => rfl) d7
     ·intro w L f hC hLi hLd hLn hF
      obtain ⟨d2, _⟩ := hF
      have d2 : f 2 = .pointer (some ⟨r, 0, none⟩) := d2
      refine Step2.live rfl ?_
      have hw := hC.a (hLn 6 (by simp))
      rw [hw]
      have hC := hw ▸ hC
      have ev : ∀ t, evalOf f (.tmp t) = f t := fun _ => rfl
      have ec : ∀ c, evalOf f (.const c) = c := fun _ => rfl
      have ef : ∀ g, evalOf f (.func g) = .func (.func g) #[] #[] := fun _ => rfl
      refine relUpon_value ?_ hC (fun _ _ => rfl) rfl
      go_simp
     ·intro w L f hC hLi hLd hLn hF
      obtain ⟨d7, _⟩ := hF
      have d7 : f 7 = .pointer (some ⟨g, k * 10, none⟩) := d7
      refine Step2.live rfl ?_
      exact relUpon_value (v := f 7) rfl (hC) (fun _ _ => rfl) d7
     ·intro w L f hC hLi hLd hLn hF
      obtain ⟨d67, _⟩ := hF
      have d67 : f 67 = .pointer (some ⟨g, k * 10, none⟩) := d67
      refine Step2.live rfl ?_
      have ev : ∀ t, evalOf f (.tmp t) = f t := fun _ => rfl
      have ec : ∀ c, evalOf f (.const c) = c := fun _ => rfl
      have ef : ∀ g, evalOf f (.func g) = .func (.func g) #[] #[] := fun _ => rfl
      refine relUpon_value ?_ hC (fun _ _ => rfl) rfl
      go_simp
     ·intro w L f hC hLi hLd hLn hF
      obtain ⟨d68, _⟩ := hF
      have d68 : f 68 = .pointer (some ⟨g, k * 10, none⟩) := d68
      refine Step2.live rfl ?_
      have ev : ∀ t, evalOf f (.tmp t) = f t := fun _ => rfl
      have ec : ∀ c, evalOf f (.const c) = c := fun _ => rfl
      have ef : ∀ g, evalOf f (.func g) = .func (.func g) #[] #[] := fun _ => rfl
      refine relUpon_value ?_ hC (fun _ _ => rfl) rfl
      go_simp
     ·intro w L f hC hLi hLd hLn hF
      obtain ⟨d69, _⟩ := hF
      have d69 : f 69 = .pointer (some ⟨g, k * 10 + 8, none⟩) := d69
      refine Step2.live rfl ?_
      have hw := hC.a (hLn 6 (by simp))
      rw [hw]
      have hC := hw ▸ hC
      have ev : ∀ t, evalOf f (.tmp t) = f t := fun _ => rfl
      have ec : ∀ c, evalOf f (.const c) = c := fun _ => rfl
      have ef : ∀ g, evalOf f (.func g) = .func (.func g) #[] #[] := fun _ => rfl
      refine relUpon_value ?_ hC (fun _ _ => rfl) rfl
      go_simp
     ·intro w L f hC hLi hLd hLn hF
      obtain ⟨d66, d70, _⟩ := hF
      have d66 : f 66 = .agg #[.map (some m)] := d66
      have d70 : f 70 = .slice Al nE cl := d70
      refine Step2.live rfl ?_
      have hw := hC.a hLi
      rw [hw]
      have ev : ∀ t, evalOf f (.tmp t) = f t := fun _ => rfl
      have ec : ∀ c, evalOf f (.const c) = c := fun _ => rfl
      have ef : ∀ g, evalOf f (.func g) = .func (.func g) #[] #[] := fun _ => rfl
      refine relUpon_call (f := 28) (args := #[.agg #[.map (some m)], .slice Al nE cl]) (w := wW) (by go_simp) hcall.out ?_
      rintro e w1 h1
      obtain ⟨v', he, h2⟩ := hMM.out e w1 h1
      exact ⟨v', he, ⟨fun h => absurd h (by simp [hLn 9 (by simp)]), fun h => absurd h (by simp), fun h => absurd h (by simp [hLn 9 (by simp)])⟩, fun h => absurd rfl h, fun _ _ => h2⟩
     ·intro w L f hC hLi hLd hLn hF
      obtain ⟨d65, _⟩ := hF
      have d65 : f 65 = .pointer (some ⟨g, k * 10, none⟩) := d65
      refine Step2.live rfl ?_
      have ev : ∀ t, evalOf f (.tmp t) = f t := fun _ => rfl
      have ec : ∀ c, evalOf f (.const c) = c := fun _ => rfl
      have ef : ∀ g, evalOf f (.func g) = .func (.func g) #[] #[] := fun _ => rfl
      refine relUpon_value ?_ hC (fun _ _ => rfl) rfl
      go_simp
     ·intro w L f hC hLi hLd hLn hF
      obtain ⟨d72, _⟩ := hF
      have d72 : f 72 = .pointer (some ⟨g, k * 10, none⟩) := d72
      refine Step2.live rfl ?_
      have ev : ∀ t, evalOf f (.tmp t) = f t := fun _ => rfl
      have ec : ∀ c, evalOf f (.const c) = c := fun _ => rfl
      have ef : ∀ g, evalOf f (.func g) = .func (.func g) #[] #[] := fun _ => rfl
      refine relUpon_value ?_ hC (fun _ _ => rfl) rfl
      go_simp
     ·intro w L f hC hLi hLd hLn hF
      obtain ⟨d73, d71, _⟩ := hF
      have d73 : f 73 = .pointer (some ⟨g, k * 10 + 8, none⟩) := d73
      refine Step2.live rfl ?_
      have l6 : L 6 = true := hLd 6 (by decide)
      have hm := d71 l6 hLi
      obtain ⟨vA, vn, vc, hsh⟩ := hshape.out w _ hm
      rw [hsh] at hm
      obtain ⟨hcell, hlt, hfz⟩ := hfact.out w _ hm
      obtain ⟨uo, hcell⟩ := hcell
      have ev : ∀ t, evalOf f (.tmp t) = f t := fun _ => rfl
      have ec : ∀ c, evalOf f (.const c) = c := fun _ => rfl
      have ef : ∀ g, evalOf f (.func g) = .func (.func g) #[] #[] := fun _ => rfl
      refine relUpon_skip (w' := w.setCell ⟨g, k * 10 + 8, none⟩ (.slice vA vn vc)) ?_ ⟨fun _ => by simp [l6], fun h => absurd h (by simp [l6]), fun _ => hZ.out w _ hm⟩ (fun _ h => absurd rfl h) trivial
      go_simp
    intro x w' hC hV

    have hd := hC.c rfl
    rw [hZZ2.out] at hd
    clear hC hV hcall hMM hshape hfact hZ hgo hZZ2 q8 qr qrl qgl hgW hwg
    simp only [framed]
    obtain ⟨wd, hwd⟩ : ∃ y, y = w' := ⟨_, rfl⟩
    rw [← hwd] at hd ⊢
    clear hwd
    clear wc wW
    obtain ⟨wc, hwc⟩ : ∃ y, y = wd := ⟨_, rfl⟩
    rw [← hwc] at hd ⊢
    have hLc := Lib.hid hd
    clear hwc hd ZZ MM
    have hfin : Hid (LS m K r g n (LSet w S g) (resK K l (k + 1)) w wc) := Lib.hid (hLc.out.congr fun j hj => by
     by_cases e : j = k
     ·rw [if_pos e, e]
      unfold resK
      rw [if_pos (by omega), hgetd.out, hh2'.out]
      rfl
     ·rw [if_neg e]
      unfold resK
      by_cases h1 : j < k
      ·rw [if_pos h1, if_pos (by omega)]
      ·rw [if_neg h1, if_neg (by omega)])
    clear hLc
    go_wp2_with fail
    exact ⟨⟨k + 1, by omega, by simp, hfin⟩, by simp [intOf]; omega⟩
  ·obtain rfl : k = n := by omega
   obtain ⟨cs, hr⟩ := hL.out.row
   have hlast : Hid (SlAt wl (fun x => S x ∨ w.heap.size ≤ x) (listP K l) (.slice (some ⟨g, 0, none⟩) k cap)) := Lib.hid ((hr.sl (l := listP K l) (by rw [← elems_len, listP_elems, List.length_map, elems_len, ← hn2.out]) (fun j hj => by
    have hj2 : j < l.elems.length := by rw [listP_elems, List.length_map] at hj; exact hj
    have hjk : j < k := by rw [hn2.out, ← elems_len]; exact hj2
    unfold resK
    rw [if_pos hjk]
    simp only [listP_elems, List.getElem_map]
    simp [List.getD_eq_getElem?_getD, List.getElem?_eq_getElem hj2]) hlen hcap).mono fun x hx hh => by
     have h2 := hg.out
     have h3 := hrB.out
     rcases hh with (hh | hh) | hh
     ·exact .inl hh.2
     ·exact .inr (by omega)
     ·exact .inr (by omega))
   have hB3 : Hid (Below w.heap.size w wl) := Lib.hid hL.out.rs.bl
   clear hL hr
   go_wp2_with fail
   go_ret
   exact ⟨_, rfl, hlast.out, hB3.out⟩
theorem rlist_any (m : Nat) (K : List UInt8 → Nat) : ∀ (N : Nat) (l : Sl), l.dep ≤ N → RLs m K l
 | 0, l, hN => rlist_step m K l fun l' h => absurd h (by omega)
 | N + 1, l, hN => rlist_step m K l fun l' h => rlist_any m K N l' (by omega)
end Go.Proofs.Ytpndglghpojjkaa
/- The walk of a statement. -/
namespace Go.Proofs.Ytpndglghpojjkaa
open Go.RowKit Go.Deep

/-- The number of statements is within its bound. -/
def PS.Few (s : PS) : Prop := s.n ≤ 201 ∧ (s.e = 0 → s.n ≤ 200)
/-- Function f reads statements as F does, where m or more are open. -/
def ReadsS (f : Nat) (m : Nat) (F : PC → PS → Sl × PS) : Prop := ∀ (C : PC) (L : PL) (w : World) (s : PS), PAt C L s w → m ≤ s.deep → s.Few → Calls Try.prog f #[.pointer (some ⟨L.g, 0, none⟩)] w (SlPost C L (F C s) w)
theorem ReadsC.near {f m : Nat} {F : PC → PS → Cn × PS} (h : ReadsC f m F) {C : PC} {L : PL} {s : PS} {w0 w : World} {r : Cn × PS} (hM : Moved C L s w0 w) (hm : m ≤ s.deep) (hr : F C s = r) :
  Calls Try.prog f #[.pointer (some ⟨L.g, 0, none⟩)] w fun e w' => ∃ p, e = .returned (.pointer p) ∧ Moved C L r.2 w0 w' ∧ CnAt w' (Ge w.heap.size) r.1 (.pointer p) ∧ Writes [some L.g] w w' := by
 subst hr
 refine (h C L w s hM.at_ hm).mono ?_
 rintro e w' ⟨p, rfl, h1, h2⟩
 exact ⟨p, rfl, hM.trans h1, h2, h1.wr⟩
theorem agsAt_slice {w : World} {S : Nat → Prop} {l : List Ag} {v : Value} (h : AgsAt w S l v) : ∃ A c, v = .slice A l.length c := by
 obtain ⟨A, c, us, e, _⟩ := h
 exact ⟨A, c, e⟩
theorem isF_excl {C : PC} {t t' : List UInt8} {s : PS} (h : isF C t s = true) (hne : t ≠ t') : isF C t' s = false := by
 unfold isF at h ⊢
 cases hx : C.tk[s.i]? with
 | none => simp
 | some x =>
  rw [hx] at h
  simp only [Bool.and_eq_true, bne_iff_ne, beq_iff_eq] at h
  simp only [Bool.and_eq_false_iff, beq_eq_false_iff_ne]
  exact .inr (.inr (by rw [h.2.2]; exact hne))
theorem cnAt_vp {w : World} {S : Nat → Prop} {e : Cn} {v : Value} (h : CnAt w S e v) : ∃ p, v = .pointer p := by
 cases e with
 | nil => exact ⟨_, h⟩
 | mk k a b p q nm =>
  obtain ⟨g, va, vb, vp, vq, e, _⟩ := h
  exact ⟨_, e⟩
def zero10 : Array Value := #[.int .i64 0, .string ⟨#[]⟩, .string ⟨#[]⟩, .pointer none, .pointer none, .pointer none, .slice none 0 0, .slice none 0 0, .slice none 0 0, .int .i64 0]
theorem Moved.one {C : PC} {L : PL} {s : PS} {w0 w : World} (h : Moved C L s w0 w) (hn : s.n ≤ 999) : Moved C L s.one w0 (w.setCell ⟨L.g, 6, none⟩ (.int .i64 ((s.n : Int) + 1))) := by
 refine h.store 6 _ ?_ ⟨h.at_.ok.i, by simp only [PS.one]; omega, h.at_.ok.at_, h.at_.ok.e, h.at_.ok.deep⟩
 simp [PS.cells, PS.one]
set_option maxRecDepth 100000 in
set_option maxHeartbeats 16000000 in
theorem stmt_step (m : Nat) (sum : PC → PS → Ex × PS) (cond : PC → PS → Cn × PS) (block : PC → PS → Sl × PS) (hsum : Reads6 62 m sum) (hcond : ReadsC 63 m cond) (hblock : ReadsS 64 m block)
  (hs : ∀ C s, Stp C s (sum C s).2) (hc : ∀ C s, Stp C s (cond C s).2) (hb : ∀ C s, Stp C s (block C s).2) (C : PC) (Z : PL) (w : World) (s : PS) (hP : PAt C Z s w) (hm : m ≤ s.deep) (hn : s.n ≤ 200) :
  Calls Try.prog 42 #[.pointer (some ⟨Z.g, 0, none⟩)] w (StPost C Z (stmtF C (sum C) (cond C) (block C) s) w) := by
 obtain ⟨b1, b2, b3, b4, b5, b6, b7⟩ := hP.bounds
 have hz0 := hP.lt
 obtain ⟨R, hR⟩ : ∃ y, y = stmtF C (sum C) (cond C) (block C) s := ⟨_, rfl⟩
 rw [← hR]
 obtain ⟨w1, hw1⟩ : ∃ ww, ww = w.alloc (.cells zero10 38) := ⟨_, rfl⟩
 obtain ⟨wa, hwa⟩ : ∃ ww, ww = w1.alloc (.cells ((hd0 s.n).cells (.pointer none) (.pointer none) (.pointer none) (.slice none 0 0) (.slice none 0 0) (.slice none 0 0)) 38) := ⟨_, rfl⟩
 obtain ⟨gr, hgre⟩ : ∃ x, x = w.heap.size := ⟨_, rfl⟩
 obtain ⟨gs, hgse⟩ : ∃ x, x = w1.heap.size := ⟨_, rfl⟩
 have hz1 : w1.heap.size = w.heap.size + 1 := by rw [hw1]; simp
 have hza : wa.heap.size = w1.heap.size + 1 := by rw [hwa]; simp
 have hb1 : Below w.heap.size w w1 := by rw [hw1]; exact below_new w _
 have hb2 : Below w1.heap.size w1 wa := by rw [hwa]; exact below_new w1 _
 have hba := Lib.hid (hb1.trans (hb2.mono hb1.size))
 have hgr : Hid (Holds wa gr 38 zero10) := Lib.hid (by rw [hgre]; exact (show Holds w1 w.heap.size 38 zero10 by rw [hw1]; exact Holds.new w _ _).below hb2 (by omega))
 have hVa : Hid (VS C Z gs s ((hd0 s.n).cells (.pointer none) (.pointer none) (.pointer none) (.slice none 0 0) (.slice none 0 0) (.slice none 0 0)) wa wa) :=
  Lib.hid ⟨(hP.up hb1).up hb2, Writes.refl _ _, by rw [hgse, hwa]; exact Holds.new w1 _ _, by omega, by omega⟩
 have hgr0 : w.heap.size ≤ gr := by omega
 have hgs0 : w.heap.size ≤ gs := by omega
 have hgrl : gr < wa.heap.size := by omega
 have hne : gr ≠ gs := by omega
 have hzg : Z.g < gr := by omega
 have hltz : Z.g < wa.heap.size := by omega
 have hlow : gs < wa.heap.size := by omega
 have hn1 : (hd0 s.n).at_ ≤ 201 := by simp only [hd0]; omega
 obtain ⟨kn, hkn⟩ : ∃ y, y = knownF C s := ⟨_, rfl⟩
 replace hkn := Lib.hid hkn
 obtain ⟨a0, d0, d1, d2, d3, d4, d5, d6, dfz⟩ := hP.facts
 clear hb1 hb2 hP
 go_enter Try.func42, Try.ntmps42
 go_upto_region 2 with (fail)
 rw [show ((w.alloc (.cells #[.int .i64 0, .string ⟨#[]⟩, .string ⟨#[]⟩, .pointer none, .pointer none, .pointer none, .slice none 0 0, .slice none 0 0, .slice none 0 0, .int .i64 0] 38)).alloc (.cells #[.int .i64 0, .string ⟨#[]⟩, .string ⟨#[]⟩, .pointer none, .pointer none, .pointer none, .slice none 0 0, .slice none 0 0, .slice none 0 0, .int .i64 s.n] 38)) = wa from by rw [hwa, hw1]; rfl]
 rw [show w.heap.size + 1 = gs from by omega, show w.heap.size = gr from hgre.symm]
 clear hwa hw1 hgre hgse hz1 hza
 go_cut [4] (fun kv wc => kv = .bool kn ∧ Hid (Moved C Z s wa wc))
 case first =>
  clear a0 d0 d1 d2 d3 d4 d5 d6 dfz
  cases k0 : namedF C s with
  | true =>
   have hN2 : Hid (kn = true) := Lib.hid (by rw [hkn.out]; unfold knownF; rw [k0]; simp)
   replace k0 := Lib.hid k0
   go_wp2_with fail
   refine (named_from hVa.out.mv k0.out).mono ?_
   rintro e v0 ⟨rfl, g0, -⟩
   replace g0 := Lib.hid g0
   go_wp2_with fail
   go_meet
   case rel => exact ⟨by rw [hN2.out], g0⟩

  | false =>
   cases k1 : isF C [42] s with
   | true =>
    have hN2 : Hid (kn = true) := Lib.hid (by rw [hkn.out]; unfold knownF; rw [k0, k1]; simp)
    replace k0 := Lib.hid k0
    replace k1 := Lib.hid k1
    go_wp2_with fail
    refine (named_from hVa.out.mv k0.out).mono ?_
    rintro e v0 ⟨rfl, g0, -⟩
    replace g0 := Lib.hid g0
    go_wp2_with fail
    refine (is_from g0.out [42] k1.out).mono ?_
    rintro e v1 ⟨rfl, g1, -⟩
    replace g1 := Lib.hid g1
    go_wp2_with fail
    go_meet
    case rel => exact ⟨by rw [hN2.out], g1⟩

   | false =>
    cases k2 : isF C [114, 101, 116, 117, 114, 110] s with
    | true =>
     have hN2 : Hid (kn = true) := Lib.hid (by rw [hkn.out]; unfold knownF; rw [k0, k1, k2]; simp)
     replace k0 := Lib.hid k0
     replace k1 := Lib.hid k1
     replace k2 := Lib.hid k2
     go_wp2_with fail
     refine (named_from hVa.out.mv k0.out).mono ?_
     rintro e v0 ⟨rfl, g0, -⟩
     replace g0 := Lib.hid g0
     go_wp2_with fail
     refine (is_from g0.out [42] k1.out).mono ?_
     rintro e v1 ⟨rfl, g1, -⟩
     replace g1 := Lib.hid g1
     go_wp2_with fail
     refine (is_from g1.out [114, 101, 116, 117, 114, 110] k2.out).mono ?_
     rintro e v2 ⟨rfl, g2, -⟩
     replace g2 := Lib.hid g2
     go_wp2_with fail
     go_meet
     case rel => exact ⟨by rw [hN2.out], g2⟩

    | false =>
     cases k3 : isF C [97, 115, 115, 101, 114, 116] s with
     | true =>
      have hN2 : Hid (kn = true) := Lib.hid (by rw [hkn.out]; unfold knownF; rw [k0, k1, k2, k3]; simp)
      replace k0 := Lib.hid k0
      replace k1 := Lib.hid k1
      replace k2 := Lib.hid k2
      replace k3 := Lib.hid k3
      go_wp2_with fail
      refine (named_from hVa.out.mv k0.out).mono ?_
      rintro e v0 ⟨rfl, g0, -⟩
      replace g0 := Lib.hid g0
      go_wp2_with fail
      refine (is_from g0.out [42] k1.out).mono ?_
      rintro e v1 ⟨rfl, g1, -⟩
      replace g1 := Lib.hid g1
      go_wp2_with fail
      refine (is_from g1.out [114, 101, 116, 117, 114, 110] k2.out).mono ?_
      rintro e v2 ⟨rfl, g2, -⟩
      replace g2 := Lib.hid g2
      go_wp2_with fail
      refine (is_from g2.out [97, 115, 115, 101, 114, 116] k3.out).mono ?_
      rintro e v3 ⟨rfl, g3, -⟩
      replace g3 := Lib.hid g3
      go_wp2_with fail
      go_meet
      case rel => exact ⟨by rw [hN2.out], g3⟩

     | false =>
      cases k4 : isF C [105, 102] s with
      | true =>
       have hN2 : Hid (kn = true) := Lib.hid (by rw [hkn.out]; unfold knownF; rw [k0, k1, k2, k3, k4]; simp)
       replace k0 := Lib.hid k0
       replace k1 := Lib.hid k1
       replace k2 := Lib.hid k2
       replace k3 := Lib.hid k3
       replace k4 := Lib.hid k4
       go_wp2_with fail
       refine (named_from hVa.out.mv k0.out).mono ?_
       rintro e v0 ⟨rfl, g0, -⟩
       replace g0 := Lib.hid g0
       go_wp2_with fail
       refine (is_from g0.out [42] k1.out).mono ?_
       rintro e v1 ⟨rfl, g1, -⟩
       replace g1 := Lib.hid g1
       go_wp2_with fail
       refine (is_from g1.out [114, 101, 116, 117, 114, 110] k2.out).mono ?_
       rintro e v2 ⟨rfl, g2, -⟩
       replace g2 := Lib.hid g2
       go_wp2_with fail
       refine (is_from g2.out [97, 115, 115, 101, 114, 116] k3.out).mono ?_
       rintro e v3 ⟨rfl, g3, -⟩
       replace g3 := Lib.hid g3
       go_wp2_with fail
       refine (is_from g3.out [105, 102] k4.out).mono ?_
       rintro e v4 ⟨rfl, g4, -⟩
       replace g4 := Lib.hid g4
       go_wp2_with fail
       go_meet
       case rel => exact ⟨by rw [hN2.out], g4⟩

      | false =>
       cases k5 : isF C [119, 104, 105, 108, 101] s with
       | true =>
        have hN2 : Hid (kn = true) := Lib.hid (by rw [hkn.out]; unfold knownF; rw [k0, k1, k2, k3, k4, k5]; simp)
        replace k0 := Lib.hid k0
        replace k1 := Lib.hid k1
        replace k2 := Lib.hid k2
        replace k3 := Lib.hid k3
        replace k4 := Lib.hid k4
        replace k5 := Lib.hid k5
        go_wp2_with fail
        refine (named_from hVa.out.mv k0.out).mono ?_
        rintro e v0 ⟨rfl, g0, -⟩
        replace g0 := Lib.hid g0
        go_wp2_with fail
        refine (is_from g0.out [42] k1.out).mono ?_
        rintro e v1 ⟨rfl, g1, -⟩
        replace g1 := Lib.hid g1
        go_wp2_with fail
        refine (is_from g1.out [114, 101, 116, 117, 114, 110] k2.out).mono ?_
        rintro e v2 ⟨rfl, g2, -⟩
        replace g2 := Lib.hid g2
        go_wp2_with fail
        refine (is_from g2.out [97, 115, 115, 101, 114, 116] k3.out).mono ?_
        rintro e v3 ⟨rfl, g3, -⟩
        replace g3 := Lib.hid g3
        go_wp2_with fail
        refine (is_from g3.out [105, 102] k4.out).mono ?_
        rintro e v4 ⟨rfl, g4, -⟩
        replace g4 := Lib.hid g4
        go_wp2_with fail
        refine (is_from g4.out [119, 104, 105, 108, 101] k5.out).mono ?_
        rintro e v5 ⟨rfl, g5, -⟩
        replace g5 := Lib.hid g5
        go_wp2_with fail
        go_meet
        case rel => exact ⟨by rw [hN2.out], g5⟩

       | false =>
        have hN2 : Hid (kn = false) := Lib.hid (by rw [hkn.out]; unfold knownF; rw [k0, k1, k2, k3, k4, k5]; rfl)
        replace k0 := Lib.hid k0
        replace k1 := Lib.hid k1
        replace k2 := Lib.hid k2
        replace k3 := Lib.hid k3
        replace k4 := Lib.hid k4
        replace k5 := Lib.hid k5
        go_wp2_with fail
        refine (named_from hVa.out.mv k0.out).mono ?_
        rintro e v0 ⟨rfl, g0, -⟩
        replace g0 := Lib.hid g0
        go_wp2_with fail
        refine (is_from g0.out [42] k1.out).mono ?_
        rintro e v1 ⟨rfl, g1, -⟩
        replace g1 := Lib.hid g1
        go_wp2_with fail
        refine (is_from g1.out [114, 101, 116, 117, 114, 110] k2.out).mono ?_
        rintro e v2 ⟨rfl, g2, -⟩
        replace g2 := Lib.hid g2
        go_wp2_with fail
        refine (is_from g2.out [97, 115, 115, 101, 114, 116] k3.out).mono ?_
        rintro e v3 ⟨rfl, g3, -⟩
        replace g3 := Lib.hid g3
        go_wp2_with fail
        refine (is_from g3.out [105, 102] k4.out).mono ?_
        rintro e v4 ⟨rfl, g4, -⟩
        replace g4 := Lib.hid g4
        go_wp2_with fail
        refine (is_from g4.out [119, 104, 105, 108, 101] k5.out).mono ?_
        rintro e v5 ⟨rfl, g5, -⟩
        replace g5 := Lib.hid g5
        go_wp2_with fail
        go_meet
        case rel => exact ⟨by rw [hN2.out], g5⟩

 case rest =>
  obtain ⟨rfl, hg⟩ := hcut
  have hV0 := hVa.out.call hg.out
  obtain ⟨w0, hw0⟩ : ∃ ww, ww = wc := ⟨_, rfl⟩
  rw [← hw0] at hV0 ⊢
  clear hg hw0 a0 d0 d1 d2 d3 d4 d5 d6 dfz
  obtain ⟨a0, d0, d1, d2, d3, d4, d5, d6, dfz⟩ := hV0.mv.facts
  replace hV0 := Lib.hid hV0
  by_cases hfail : kn = true ∧ 200 ≤ s.n
  case pos =>
   have hkv := hfail.1
   have h200 : (200 : Int) ≤ (s.n : Int) := by have := hfail.2; omega
   have hF : Hid (R = ((hd0 s.n, .nil, .nil), failF C 53 s)) := Lib.hid (by rw [hR]; unfold stmtF; rw [if_pos (by rw [← hkn.out, hkv, decide_eq_true hfail.2]; rfl)])
   subst hkv
   clear hfail hR
   go_wp2_with fail
   refine (fail_from hV0.out.mv 53 (by decide) rfl).mono ?_
   rintro e w2 ⟨rfl, q, -⟩
   have V2 := Lib.hid (hV0.out.call q)
   clear q a0 d0 d1 d2 d3 d4 d5 d6 dfz
   obtain ⟨fl, fz⟩ := V2.out.facts
   have f0 : w2.cell? ⟨gs, 0, none⟩ = some (.int .i64 0) := V2.out.fact 0 rfl
   have f1 : w2.cell? ⟨gs, 1, none⟩ = some (.string ⟨#[]⟩) := V2.out.fact 1 rfl
   have f2 : w2.cell? ⟨gs, 2, none⟩ = some (.string ⟨#[]⟩) := V2.out.fact 2 rfl
   have f3 : w2.cell? ⟨gs, 3, none⟩ = some (.pointer none) := V2.out.fact 3 rfl
   have f4 : w2.cell? ⟨gs, 4, none⟩ = some (.pointer none) := V2.out.fact 4 rfl
   have f5 : w2.cell? ⟨gs, 5, none⟩ = some (.pointer none) := V2.out.fact 5 rfl
   have f6 : w2.cell? ⟨gs, 6, none⟩ = some (.slice none 0 0) := V2.out.fact 6 rfl
   have f7 : w2.cell? ⟨gs, 7, none⟩ = some (.slice none 0 0) := V2.out.fact 7 rfl
   have f8 : w2.cell? ⟨gs, 8, none⟩ = some (.slice none 0 0) := V2.out.fact 8 rfl
   have f9 : w2.cell? ⟨gs, 9, none⟩ = some (.int .i64 s.n) := V2.out.fact 9 rfl
   have hgr1 : Holds w2 gr 38 zero10 := V2.out.wr.holds hgr.out (by simp; omega)
   have g0 := hgr1.lt
   have gz := fun i => hgr1.frozen i
   have k0 : w2.cell? ⟨gr, 0, none⟩ = some (.int .i64 0) := hgr1.cell 0
   have k1 : w2.cell? ⟨gr, 1, none⟩ = some (.string ⟨#[]⟩) := hgr1.cell 1
   have k2 : w2.cell? ⟨gr, 2, none⟩ = some (.string ⟨#[]⟩) := hgr1.cell 2
   have k3 : w2.cell? ⟨gr, 3, none⟩ = some (.pointer none) := hgr1.cell 3
   have k4 : w2.cell? ⟨gr, 4, none⟩ = some (.pointer none) := hgr1.cell 4
   have k5 : w2.cell? ⟨gr, 5, none⟩ = some (.pointer none) := hgr1.cell 5
   have k6 : w2.cell? ⟨gr, 6, none⟩ = some (.slice none 0 0) := hgr1.cell 6
   have k7 : w2.cell? ⟨gr, 7, none⟩ = some (.slice none 0 0) := hgr1.cell 7
   have k8 : w2.cell? ⟨gr, 8, none⟩ = some (.slice none 0 0) := hgr1.cell 8
   have k9 : w2.cell? ⟨gr, 9, none⟩ = some (.int .i64 0) := hgr1.cell 9
   replace hgr1 := Lib.hid hgr1
   go_wp2_with fail
   refine ret_cellS rfl rfl rfl (put10_holds hgr1.out _ _ _ _ _ _ _ _ _ _) Try.underlying38 Try.sStmt ?_
   rw [hF.out]
   exact StPost.of (h := hd0 s.n) V2.out ⟨ExAt.nil_ _ _, ExAt.nil_ _ _, CnAt.nil_ _ _, AgsAt.nil_ _ _, Nat.zero_le 4096, Nat.zero_le 4096, (by decide : 0 ≤ 12), hn1⟩ (SlAt.nil_ _ _) (SlAt.nil_ _ _) hz0 hba.out hgr0 hgs0 hgrl (put10_writes _ _ _ _ _ _ _ _ _ _ _ _)
  case neg =>
   have hkf : (knownF C s && decide (200 ≤ s.n)) = false := by
    rw [← hkn.out]
    cases hkv : kn with
    | false => rfl
    | true => rw [decide_eq_false (fun h => hfail ⟨hkv, h⟩)]; rfl
   go_upto_region 3 with (fail)
   go_cut [4, 40] (fun kv bv wd => kv = .bool kn ∧ bv = .bool false ∧ w0 = wd)
   case first =>
    cases hkv : kn with
    | false =>
     replace hkf := Lib.hid hkf
     replace hkv := Lib.hid hkv
     go_wp2_with fail
     go_meet
     case rel => exact ⟨by rw [hkv.out], rfl, rfl⟩
    | true =>
     have h200 : ¬ (200 : Int) ≤ (s.n : Int) := by
      have : ¬ 200 ≤ s.n := fun h => hfail ⟨hkv, h⟩
      omega
     replace hkf := Lib.hid hkf
     replace hkv := Lib.hid hkv
     go_wp2_with fail
     go_meet
     case rel => exact ⟨by rw [hkv.out], rfl, rfl⟩
   case rest =>
    obtain ⟨rfl, rfl, rfl⟩ := hcut
    clear hfail
    have hw9 : IntKind.i64.wrap ((s.n : Int) + 1) = (s.n : Int) + 1 := IntWalk.i64_in _ (by omega)
    have q := hV0.out.mv.one (by omega)
    obtain ⟨wN, hwN⟩ : ∃ ww, ww = w0.setCell ⟨Z.g, 6, none⟩ (.int .i64 ((s.n : Int) + 1)) := ⟨_, rfl⟩
    rw [← hwN] at q
    have VN : Hid (VS C Z gs s.one #[.int .i64 0, .string ⟨#[]⟩, .string ⟨#[]⟩, .pointer none, .pointer none, .pointer none, .slice none 0 0, .slice none 0 0, .slice none 0 0, .int .i64 s.n] wa wN) := Lib.hid (hV0.out.call q)
    clear q
    replace hkf := Lib.hid hkf
    replace hR := Lib.hid hR
    go_wp2_with fail
    rw [← hwN]
    clear hwN a0 d0 d1 d2 d3 d4 d5 d6 dfz hw9 hV0
    cases h1 : isF C [114, 101, 116, 117, 114, 110] s.one with
    | true =>
     obtain ⟨r, hr⟩ : ∃ yy, yy = sum C s.one.next := ⟨_, rfl⟩
     obtain ⟨s5, hs5⟩ : ∃ yy, yy = wantF C [59] r.2 := ⟨_, rfl⟩
     have hF : Hid (R = (({ hd0 s.n with k := 9, e := r.1 }, .nil, .nil), s5)) := Lib.hid (by rw [hR.out, hs5, hr]; unfold stmtF plainF; simp only [hkf.out, isF_excl h1 (t' := [105, 102]) (by decide), isF_excl h1 (t' := [119, 104, 105, 108, 101]) (by decide), h1]; rfl)
     replace hr := Lib.hid hr
     replace hs5 := Lib.hid hs5
     replace h1 := Lib.hid h1
     refine (take_yes VN.out.mv [114, 101, 116, 117, 114, 110] h1.out rfl).mono ?_
     rintro e w1 ⟨rfl, q, hW⟩
     have V1 := Lib.hid (VN.out.call q)
     clear q hW
     go_wp2_with fail
     refine (hsum.near V1.out.mv hm hr.out.symm).mono ?_
     rintro e w2 ⟨pr, rfl, q, hE, hW⟩
     have V2 := Lib.hid (V1.out.call q)
     have Tr := Lib.hid (hE.ge (B := wa.heap.size) V1.out.wr.size)
     clear q hW hE
     obtain ⟨fl, fz⟩ := V2.out.facts
     have f0 : w2.cell? ⟨gs, 0, none⟩ = some (.int .i64 0) := V2.out.fact 0 rfl
     have f3 : w2.cell? ⟨gs, 3, none⟩ = some (.pointer none) := V2.out.fact 3 rfl
     have V3 : VS C Z gs (r.2) #[.int .i64 9, .string ⟨#[]⟩, .string ⟨#[]⟩, .pointer pr, .pointer none, .pointer none, .slice none 0 0, .slice none 0 0, .slice none 0 0, .int .i64 s.n] wa ((w2.setCell ⟨gs, 0, none⟩ (.int .i64 9)).setCell ⟨gs, 3, none⟩ (.pointer pr)) := ((V2.out.store 0 (.int .i64 9)).store 3 (.pointer pr))
     obtain ⟨w3, hw3⟩ : ∃ ww, ww = ((w2.setCell ⟨gs, 0, none⟩ (.int .i64 9)).setCell ⟨gs, 3, none⟩ (.pointer pr)) := ⟨_, rfl⟩
     rw [← hw3] at V3
     replace V3 := Lib.hid V3
     have Tr_3 := ((Tr.out.st hlow 0 (.int .i64 9)).st hlow 3 (.pointer pr))
     rw [← hw3] at Tr_3
     replace Tr_3 := Lib.hid Tr_3
     go_wp2_with fail
     rw [← hw3]
     clear hw3 fl fz f0 f3
     refine (want_from V3.out.mv [59] hs5.out.symm).mono ?_
     rintro e w4 ⟨rfl, q, hW⟩
     have V4 := Lib.hid (V3.out.call q)
     have Tr_4 := Lib.hid (Tr_3.out.pw hW hltz)
     clear q hW
     obtain ⟨fl, fz⟩ := V4.out.facts
     have f0 : w4.cell? ⟨gs, 0, none⟩ = some (.int .i64 9) := V4.out.fact 0 rfl
     have f1 : w4.cell? ⟨gs, 1, none⟩ = some (.string ⟨#[]⟩) := V4.out.fact 1 rfl
     have f2 : w4.cell? ⟨gs, 2, none⟩ = some (.string ⟨#[]⟩) := V4.out.fact 2 rfl
     have f3 : w4.cell? ⟨gs, 3, none⟩ = some (.pointer pr) := V4.out.fact 3 rfl
     have f4 : w4.cell? ⟨gs, 4, none⟩ = some (.pointer none) := V4.out.fact 4 rfl
     have f5 : w4.cell? ⟨gs, 5, none⟩ = some (.pointer none) := V4.out.fact 5 rfl
     have f6 : w4.cell? ⟨gs, 6, none⟩ = some (.slice none 0 0) := V4.out.fact 6 rfl
     have f7 : w4.cell? ⟨gs, 7, none⟩ = some (.slice none 0 0) := V4.out.fact 7 rfl
     have f8 : w4.cell? ⟨gs, 8, none⟩ = some (.slice none 0 0) := V4.out.fact 8 rfl
     have f9 : w4.cell? ⟨gs, 9, none⟩ = some (.int .i64 s.n) := V4.out.fact 9 rfl
     have hgr1 : Holds w4 gr 38 zero10 := V4.out.wr.holds hgr.out (by simp; omega)
     have g0 := hgr1.lt
     have gz := fun i => hgr1.frozen i
     have k0 : w4.cell? ⟨gr, 0, none⟩ = some (.int .i64 0) := hgr1.cell 0
     have k1 : w4.cell? ⟨gr, 1, none⟩ = some (.string ⟨#[]⟩) := hgr1.cell 1
     have k2 : w4.cell? ⟨gr, 2, none⟩ = some (.string ⟨#[]⟩) := hgr1.cell 2
     have k3 : w4.cell? ⟨gr, 3, none⟩ = some (.pointer none) := hgr1.cell 3
     have k4 : w4.cell? ⟨gr, 4, none⟩ = some (.pointer none) := hgr1.cell 4
     have k5 : w4.cell? ⟨gr, 5, none⟩ = some (.pointer none) := hgr1.cell 5
     have k6 : w4.cell? ⟨gr, 6, none⟩ = some (.slice none 0 0) := hgr1.cell 6
     have k7 : w4.cell? ⟨gr, 7, none⟩ = some (.slice none 0 0) := hgr1.cell 7
     have k8 : w4.cell? ⟨gr, 8, none⟩ = some (.slice none 0 0) := hgr1.cell 8
     have k9 : w4.cell? ⟨gr, 9, none⟩ = some (.int .i64 0) := hgr1.cell 9
     replace hgr1 := Lib.hid hgr1
     go_wp2_with fail
     refine ret_cellS rfl rfl rfl (put10_holds hgr1.out _ _ _ _ _ _ _ _ _ _) Try.underlying38 Try.sStmt ?_
     rw [hF.out]
     exact StPost.of (h := { hd0 s.n with k := 9, e := r.1 }) V4.out ⟨Tr_4.out, ExAt.nil_ _ _, CnAt.nil_ _ _, AgsAt.nil_ _ _, Nat.zero_le 4096, Nat.zero_le 4096, (by decide : 9 ≤ 12), hn1⟩ (SlAt.nil_ _ _) (SlAt.nil_ _ _) hz0 hba.out hgr0 hgs0 hgrl (put10_writes _ _ _ _ _ _ _ _ _ _ _ _)
    | false =>
     cases h2 : isF C [97, 115, 115, 101, 114, 116] s.one with
     | true =>
      obtain ⟨s2, hs2⟩ : ∃ yy, yy = wantF C [40] s.one.next := ⟨_, rfl⟩
      obtain ⟨r, hr⟩ : ∃ yy, yy = cond C s2 := ⟨_, rfl⟩
      obtain ⟨s4, hs4⟩ : ∃ yy, yy = wantF C [41] r.2 := ⟨_, rfl⟩
      obtain ⟨s5, hs5⟩ : ∃ yy, yy = wantF C [59] s4 := ⟨_, rfl⟩
      have hF : Hid (R = (({ hd0 s.n with k := 12, c := r.1 }, .nil, .nil), s5)) := Lib.hid (by rw [hR.out, hs5, hs4, hr, hs2]; unfold stmtF plainF; simp only [hkf.out, isF_excl h2 (t' := [105, 102]) (by decide), isF_excl h2 (t' := [119, 104, 105, 108, 101]) (by decide), h1, h2]; rfl)
      have hm2 : m ≤ s2.deep := by rw [hs2, (Stp.want _ _).dp]; exact hm
      replace hs2 := Lib.hid hs2
      replace hr := Lib.hid hr
      replace hs4 := Lib.hid hs4
      replace hs5 := Lib.hid hs5
      replace h1 := Lib.hid h1
      replace h2 := Lib.hid h2
      refine (take_no VN.out.mv [114, 101, 116, 117, 114, 110] h1.out).mono ?_
      rintro e w1 ⟨rfl, q, hW⟩
      have V1 := Lib.hid (VN.out.call q)
      clear q hW
      go_wp2_with fail
      refine (take_yes V1.out.mv [97, 115, 115, 101, 114, 116] h2.out rfl).mono ?_
      rintro e w2 ⟨rfl, q, hW⟩
      have V2 := Lib.hid (V1.out.call q)
      clear q hW
      go_wp2_with fail
      refine (want_from V2.out.mv [40] hs2.out.symm).mono ?_
      rintro e w3 ⟨rfl, q, hW⟩
      have V3 := Lib.hid (V2.out.call q)
      clear q hW
      go_wp2_with fail
      refine (hcond.near V3.out.mv hm2 hr.out.symm).mono ?_
      rintro e w4 ⟨pr, rfl, q, hE, hW⟩
      have V4 := Lib.hid (V3.out.call q)
      have Tr := Lib.hid (hE.ge (B := wa.heap.size) V3.out.wr.size)
      clear q hW hE
      obtain ⟨fl, fz⟩ := V4.out.facts
      have f0 : w4.cell? ⟨gs, 0, none⟩ = some (.int .i64 0) := V4.out.fact 0 rfl
      have f5 : w4.cell? ⟨gs, 5, none⟩ = some (.pointer none) := V4.out.fact 5 rfl
      have V5 : VS C Z gs (r.2) #[.int .i64 12, .string ⟨#[]⟩, .string ⟨#[]⟩, .pointer none, .pointer none, .pointer pr, .slice none 0 0, .slice none 0 0, .slice none 0 0, .int .i64 s.n] wa ((w4.setCell ⟨gs, 0, none⟩ (.int .i64 12)).setCell ⟨gs, 5, none⟩ (.pointer pr)) := ((V4.out.store 0 (.int .i64 12)).store 5 (.pointer pr))
      obtain ⟨w5, hw5⟩ : ∃ ww, ww = ((w4.setCell ⟨gs, 0, none⟩ (.int .i64 12)).setCell ⟨gs, 5, none⟩ (.pointer pr)) := ⟨_, rfl⟩
      rw [← hw5] at V5
      replace V5 := Lib.hid V5
      have Tr_5 := ((Tr.out.st hlow 0 (.int .i64 12)).st hlow 5 (.pointer pr))
      rw [← hw5] at Tr_5
      replace Tr_5 := Lib.hid Tr_5
      go_wp2_with fail
      rw [← hw5]
      clear hw5 fl fz f0 f5
      refine (want_from V5.out.mv [41] hs4.out.symm).mono ?_
      rintro e w6 ⟨rfl, q, hW⟩
      have V6 := Lib.hid (V5.out.call q)
      have Tr_6 := Lib.hid (Tr_5.out.pw hW hltz)
      clear q hW
      go_wp2_with fail
      refine (want_from V6.out.mv [59] hs5.out.symm).mono ?_
      rintro e w7 ⟨rfl, q, hW⟩
      have V7 := Lib.hid (V6.out.call q)
      have Tr_7 := Lib.hid (Tr_6.out.pw hW hltz)
      clear q hW
      obtain ⟨fl, fz⟩ := V7.out.facts
      have f0 : w7.cell? ⟨gs, 0, none⟩ = some (.int .i64 12) := V7.out.fact 0 rfl
      have f1 : w7.cell? ⟨gs, 1, none⟩ = some (.string ⟨#[]⟩) := V7.out.fact 1 rfl
      have f2 : w7.cell? ⟨gs, 2, none⟩ = some (.string ⟨#[]⟩) := V7.out.fact 2 rfl
      have f3 : w7.cell? ⟨gs, 3, none⟩ = some (.pointer none) := V7.out.fact 3 rfl
      have f4 : w7.cell? ⟨gs, 4, none⟩ = some (.pointer none) := V7.out.fact 4 rfl
      have f5 : w7.cell? ⟨gs, 5, none⟩ = some (.pointer pr) := V7.out.fact 5 rfl
      have f6 : w7.cell? ⟨gs, 6, none⟩ = some (.slice none 0 0) := V7.out.fact 6 rfl
      have f7 : w7.cell? ⟨gs, 7, none⟩ = some (.slice none 0 0) := V7.out.fact 7 rfl
      have f8 : w7.cell? ⟨gs, 8, none⟩ = some (.slice none 0 0) := V7.out.fact 8 rfl
      have f9 : w7.cell? ⟨gs, 9, none⟩ = some (.int .i64 s.n) := V7.out.fact 9 rfl
      have hgr1 : Holds w7 gr 38 zero10 := V7.out.wr.holds hgr.out (by simp; omega)
      have g0 := hgr1.lt
      have gz := fun i => hgr1.frozen i
      have k0 : w7.cell? ⟨gr, 0, none⟩ = some (.int .i64 0) := hgr1.cell 0
      have k1 : w7.cell? ⟨gr, 1, none⟩ = some (.string ⟨#[]⟩) := hgr1.cell 1
      have k2 : w7.cell? ⟨gr, 2, none⟩ = some (.string ⟨#[]⟩) := hgr1.cell 2
      have k3 : w7.cell? ⟨gr, 3, none⟩ = some (.pointer none) := hgr1.cell 3
      have k4 : w7.cell? ⟨gr, 4, none⟩ = some (.pointer none) := hgr1.cell 4
      have k5 : w7.cell? ⟨gr, 5, none⟩ = some (.pointer none) := hgr1.cell 5
      have k6 : w7.cell? ⟨gr, 6, none⟩ = some (.slice none 0 0) := hgr1.cell 6
      have k7 : w7.cell? ⟨gr, 7, none⟩ = some (.slice none 0 0) := hgr1.cell 7
      have k8 : w7.cell? ⟨gr, 8, none⟩ = some (.slice none 0 0) := hgr1.cell 8
      have k9 : w7.cell? ⟨gr, 9, none⟩ = some (.int .i64 0) := hgr1.cell 9
      replace hgr1 := Lib.hid hgr1
      go_wp2_with fail
      refine ret_cellS rfl rfl rfl (put10_holds hgr1.out _ _ _ _ _ _ _ _ _ _) Try.underlying38 Try.sStmt ?_
      rw [hF.out]
      exact StPost.of (h := { hd0 s.n with k := 12, c := r.1 }) V7.out ⟨ExAt.nil_ _ _, ExAt.nil_ _ _, Tr_7.out, AgsAt.nil_ _ _, Nat.zero_le 4096, Nat.zero_le 4096, (by decide : 12 ≤ 12), hn1⟩ (SlAt.nil_ _ _) (SlAt.nil_ _ _) hz0 hba.out hgr0 hgs0 hgrl (put10_writes _ _ _ _ _ _ _ _ _ _ _ _)
     | false =>
      cases hif : isF C [105, 102] s.one with
      | true =>
       obtain ⟨s2, hs2⟩ : ∃ yy, yy = wantF C [40] s.one.next := ⟨_, rfl⟩
       obtain ⟨c, hc0⟩ : ∃ yy, yy = cond C s2 := ⟨_, rfl⟩
       obtain ⟨s3, hs3⟩ : ∃ yy, yy = wantF C [41] c.2 := ⟨_, rfl⟩
       obtain ⟨bt, hbt⟩ : ∃ yy, yy = block C s3 := ⟨_, rfl⟩
       have hkn2 : ¬ 200 ≤ s.n := fun h => by
        have := hkf.out
        rw [decide_eq_true h, Bool.and_true] at this
        unfold knownF at this
        rw [show isF C [105, 102] s = true from hif] at this
        simp at this
       have hi := isF_lt hif
       have hm2 : m ≤ s2.deep := by rw [hs2, (Stp.want _ _).dp]; exact hm
       have hm3 : m ≤ s3.deep := by rw [hs3, (Stp.want _ _).dp, hc0, (hc C _).dp]; exact hm2
       have hst3 : Stp C s.one s3 := by rw [hs3, hc0, hs2]; exact (((Stp.is_ hif).trans (Stp.want _ _)).trans (hc C _)).trans (Stp.want _ _)
       have hfew3 : s3.Few := hst3.nn ⟨by simp only [PS.one]; omega, fun _ => by simp only [PS.one]; omega⟩
       have hfewb : bt.2.Few := by rw [hbt]; exact (hb C s3).nn hfew3
       have hmb : m ≤ bt.2.deep := by rw [hbt, (hb C s3).dp]; exact hm3
       have hwh := isF_excl hif (t' := [119, 104, 105, 108, 101]) (by decide)
       replace hfew3 := Lib.hid hfew3
       cases hel : isF C [101, 108, 115, 101] bt.2 with
       | true =>
        obtain ⟨be, hbe⟩ : ∃ yy, yy = block C bt.2.next := ⟨_, rfl⟩
        have hF : Hid (R = (({ hd0 s.n with k := 10, c := c.1 }, bt.1, be.1), be.2)) := Lib.hid (by rw [hR.out, hbe]; unfold stmtF testF; simp only [hkf.out, hif, ← hs2, ← hc0, ← hs3, ← hbt, hel]; rfl)
        have hfewe : Hid (bt.2.next.Few) := Lib.hid ((Stp.is_ hel).nn hfewb)
        replace hbe := Lib.hid hbe
        replace h1 := Lib.hid h1
        replace h2 := Lib.hid h2
        replace hif := Lib.hid hif
        replace hwh := Lib.hid hwh
        replace hel := Lib.hid hel
        replace hs2 := Lib.hid hs2
        replace hc0 := Lib.hid hc0
        replace hs3 := Lib.hid hs3
        replace hbt := Lib.hid hbt
        clear hfewb hst3
        refine (take_no VN.out.mv [114, 101, 116, 117, 114, 110] h1.out).mono ?_
        rintro e w1 ⟨rfl, q, hW⟩
        have V1 := Lib.hid (VN.out.call q)
        clear q hW
        go_wp2_with fail
        refine (take_no V1.out.mv [97, 115, 115, 101, 114, 116] h2.out).mono ?_
        rintro e w2 ⟨rfl, q, hW⟩
        have V2 := Lib.hid (V1.out.call q)
        clear q hW
        go_wp2_with fail
        refine (is_from V2.out.mv [105, 102] hif.out).mono ?_
        rintro e w3 ⟨rfl, q, hW⟩
        have V3 := Lib.hid (V2.out.call q)
        clear q hW
        obtain ⟨fl, fz⟩ := V3.out.facts
        have f0 : w3.cell? ⟨gs, 0, none⟩ = some (.int .i64 0) := V3.out.fact 0 rfl
        have V4 : VS C Z gs (s.one) #[.int .i64 10, .string ⟨#[]⟩, .string ⟨#[]⟩, .pointer none, .pointer none, .pointer none, .slice none 0 0, .slice none 0 0, .slice none 0 0, .int .i64 s.n] wa (w3.setCell ⟨gs, 0, none⟩ (.int .i64 10)) := (V3.out.store 0 (.int .i64 10))
        obtain ⟨w4, hw4⟩ : ∃ ww, ww = (w3.setCell ⟨gs, 0, none⟩ (.int .i64 10)) := ⟨_, rfl⟩
        rw [← hw4] at V4
        replace V4 := Lib.hid V4
        go_wp2_with fail
        rw [← hw4]
        clear hw4 fl fz f0
        refine (is_from V4.out.mv [119, 104, 105, 108, 101] hwh.out).mono ?_
        rintro e w5 ⟨rfl, q, hW⟩
        have V5 := Lib.hid (V4.out.call q)
        clear q hW
        obtain ⟨a0, d0, d1, d2, d3, d4, d5, d6, dfz⟩ := V5.out.mv.facts
        have hi5 := V5.out.at_.bounds.2.2.1
        have hw9 := i64_next (i := (s.one).i) (by omega)
        have q := V5.out.mv.next hi
        have hW : Writes [some Z.g] w5 _ := q.wr
        obtain ⟨w6, hw6⟩ : ∃ ww, ww = w5.setCell ⟨Z.g, 1, none⟩ (.int .i64 (((s.one).i : Int) + 1)) := ⟨_, rfl⟩
        rw [← hw6] at q hW
        have V6 := Lib.hid (V5.out.call q)
        clear q hW hi5
        go_wp2_with fail
        rw [← hw6]
        clear hw6 a0 d0 d1 d2 d3 d4 d5 d6 dfz hw9
        refine (want_from V6.out.mv [40] hs2.out.symm).mono ?_
        rintro e w7 ⟨rfl, q, hW⟩
        have V7 := Lib.hid (V6.out.call q)
        clear q hW
        go_wp2_with fail
        refine (hcond.near V7.out.mv hm2 hc0.out.symm).mono ?_
        rintro e w8 ⟨pc, rfl, q, hE, hW⟩
        have V8 := Lib.hid (V7.out.call q)
        have Tc := Lib.hid (hE.ge (B := wa.heap.size) V7.out.wr.size)
        clear q hW hE
        obtain ⟨fl, fz⟩ := V8.out.facts
        have f5 : w8.cell? ⟨gs, 5, none⟩ = some (.pointer none) := V8.out.fact 5 rfl
        have V9 : VS C Z gs (c.2) #[.int .i64 10, .string ⟨#[]⟩, .string ⟨#[]⟩, .pointer none, .pointer none, .pointer pc, .slice none 0 0, .slice none 0 0, .slice none 0 0, .int .i64 s.n] wa (w8.setCell ⟨gs, 5, none⟩ (.pointer pc)) := (V8.out.store 5 (.pointer pc))
        obtain ⟨w9, hw9⟩ : ∃ ww, ww = (w8.setCell ⟨gs, 5, none⟩ (.pointer pc)) := ⟨_, rfl⟩
        rw [← hw9] at V9
        replace V9 := Lib.hid V9
        have Tc_9 := (Tc.out.st hlow 5 (.pointer pc))
        rw [← hw9] at Tc_9
        replace Tc_9 := Lib.hid Tc_9
        go_wp2_with fail
        rw [← hw9]
        clear hw9 fl fz f5
        refine (want_from V9.out.mv [41] hs3.out.symm).mono ?_
        rintro e w10 ⟨rfl, q, hW⟩
        have V10 := Lib.hid (V9.out.call q)
        have Tc_10 := Lib.hid (Tc_9.out.pw hW hltz)
        clear q hW
        go_wp2_with fail
        have hcc := hblock C Z _ s3 V10.out.at_ hm3 hfew3.out
        rw [← hbt.out] at hcc
        refine hcc.mono ?_
        clear hcc
        rintro e w11 ⟨vbt, rfl, q, hE⟩
        have hW := q.wr
        have V11 := Lib.hid (V10.out.call q)
        have Tc_11 := Lib.hid (Tc_10.out.pw hW hltz)
        have Tbt := hE.ge (B := wa.heap.size) V10.out.wr.size
        obtain ⟨Abt, cbt, ev⟩ := SlAt.slice_ Tbt
        rw [ev] at Tbt ⊢
        replace Tbt := Lib.hid Tbt
        clear q hW hE ev
        obtain ⟨fl, fz⟩ := V11.out.facts
        have f0 : w11.cell? ⟨gs, 0, none⟩ = some (.int .i64 10) := V11.out.fact 0 rfl
        have f7 : w11.cell? ⟨gs, 7, none⟩ = some (.slice none 0 0) := V11.out.fact 7 rfl
        have V12 : VS C Z gs (bt.2) #[.int .i64 10, .string ⟨#[]⟩, .string ⟨#[]⟩, .pointer none, .pointer none, .pointer pc, .slice none 0 0, .slice Abt bt.1.len cbt, .slice none 0 0, .int .i64 s.n] wa (w11.setCell ⟨gs, 7, none⟩ (.slice Abt bt.1.len cbt)) := (V11.out.store 7 (.slice Abt bt.1.len cbt))
        obtain ⟨w12, hw12⟩ : ∃ ww, ww = (w11.setCell ⟨gs, 7, none⟩ (.slice Abt bt.1.len cbt)) := ⟨_, rfl⟩
        rw [← hw12] at V12
        replace V12 := Lib.hid V12
        have Tc_12 := (Tc_11.out.st hlow 7 (.slice Abt bt.1.len cbt))
        rw [← hw12] at Tc_12
        replace Tc_12 := Lib.hid Tc_12
        have Tbt_12 := (Tbt.out.st hlow 7 (.slice Abt bt.1.len cbt))
        rw [← hw12] at Tbt_12
        replace Tbt_12 := Lib.hid Tbt_12
        go_wp2_with fail
        rw [← hw12]
        clear hw12 fl fz f0 f7
        refine (take_yes V12.out.mv [101, 108, 115, 101] hel.out rfl).mono ?_
        rintro e w13 ⟨rfl, q, hW⟩
        have V13 := Lib.hid (V12.out.call q)
        have Tc_13 := Lib.hid (Tc_12.out.pw hW hltz)
        have Tbt_13 := Lib.hid (Tbt_12.out.pw hW hltz)
        clear q hW
        go_wp2_with fail
        have hcc := hblock C Z _ bt.2.next V13.out.at_ hmb hfewe.out
        rw [← hbe.out] at hcc
        refine hcc.mono ?_
        clear hcc
        rintro e w14 ⟨vbe, rfl, q, hE⟩
        have hW := q.wr
        have V14 := Lib.hid (V13.out.call q)
        have Tc_14 := Lib.hid (Tc_13.out.pw hW hltz)
        have Tbt_14 := Lib.hid (Tbt_13.out.pw hW hltz)
        have Tbe := hE.ge (B := wa.heap.size) V13.out.wr.size
        obtain ⟨Abe, cbe, ev⟩ := SlAt.slice_ Tbe
        rw [ev] at Tbe ⊢
        replace Tbe := Lib.hid Tbe
        clear q hW hE ev
        obtain ⟨fl, fz⟩ := V14.out.facts
        have f8 : w14.cell? ⟨gs, 8, none⟩ = some (.slice none 0 0) := V14.out.fact 8 rfl
        have V15 : VS C Z gs (be.2) #[.int .i64 10, .string ⟨#[]⟩, .string ⟨#[]⟩, .pointer none, .pointer none, .pointer pc, .slice none 0 0, .slice Abt bt.1.len cbt, .slice Abe be.1.len cbe, .int .i64 s.n] wa (w14.setCell ⟨gs, 8, none⟩ (.slice Abe be.1.len cbe)) := (V14.out.store 8 (.slice Abe be.1.len cbe))
        obtain ⟨w15, hw15⟩ : ∃ ww, ww = (w14.setCell ⟨gs, 8, none⟩ (.slice Abe be.1.len cbe)) := ⟨_, rfl⟩
        rw [← hw15] at V15
        replace V15 := Lib.hid V15
        have Tc_15 := (Tc_14.out.st hlow 8 (.slice Abe be.1.len cbe))
        rw [← hw15] at Tc_15
        replace Tc_15 := Lib.hid Tc_15
        have Tbt_15 := (Tbt_14.out.st hlow 8 (.slice Abe be.1.len cbe))
        rw [← hw15] at Tbt_15
        replace Tbt_15 := Lib.hid Tbt_15
        have Tbe_15 := (Tbe.out.st hlow 8 (.slice Abe be.1.len cbe))
        rw [← hw15] at Tbe_15
        replace Tbe_15 := Lib.hid Tbe_15
        go_upto_region 35 with (fail)
        rw [← hw15]
        clear hw15 fl fz f8
        obtain ⟨fl, fz⟩ := V15.out.facts
        have f0 : w15.cell? ⟨gs, 0, none⟩ = some (.int .i64 10) := V15.out.fact 0 rfl
        have f1 : w15.cell? ⟨gs, 1, none⟩ = some (.string ⟨#[]⟩) := V15.out.fact 1 rfl
        have f2 : w15.cell? ⟨gs, 2, none⟩ = some (.string ⟨#[]⟩) := V15.out.fact 2 rfl
        have f3 : w15.cell? ⟨gs, 3, none⟩ = some (.pointer none) := V15.out.fact 3 rfl
        have f4 : w15.cell? ⟨gs, 4, none⟩ = some (.pointer none) := V15.out.fact 4 rfl
        have f5 : w15.cell? ⟨gs, 5, none⟩ = some (.pointer pc) := V15.out.fact 5 rfl
        have f6 : w15.cell? ⟨gs, 6, none⟩ = some (.slice none 0 0) := V15.out.fact 6 rfl
        have f7 : w15.cell? ⟨gs, 7, none⟩ = some (.slice Abt bt.1.len cbt) := V15.out.fact 7 rfl
        have f8 : w15.cell? ⟨gs, 8, none⟩ = some (.slice Abe be.1.len cbe) := V15.out.fact 8 rfl
        have f9 : w15.cell? ⟨gs, 9, none⟩ = some (.int .i64 s.n) := V15.out.fact 9 rfl
        have hgr1 : Holds w15 gr 38 zero10 := V15.out.wr.holds hgr.out (by simp; omega)
        have g0 := hgr1.lt
        have gz := fun i => hgr1.frozen i
        have k0 : w15.cell? ⟨gr, 0, none⟩ = some (.int .i64 0) := hgr1.cell 0
        have k1 : w15.cell? ⟨gr, 1, none⟩ = some (.string ⟨#[]⟩) := hgr1.cell 1
        have k2 : w15.cell? ⟨gr, 2, none⟩ = some (.string ⟨#[]⟩) := hgr1.cell 2
        have k3 : w15.cell? ⟨gr, 3, none⟩ = some (.pointer none) := hgr1.cell 3
        have k4 : w15.cell? ⟨gr, 4, none⟩ = some (.pointer none) := hgr1.cell 4
        have k5 : w15.cell? ⟨gr, 5, none⟩ = some (.pointer none) := hgr1.cell 5
        have k6 : w15.cell? ⟨gr, 6, none⟩ = some (.slice none 0 0) := hgr1.cell 6
        have k7 : w15.cell? ⟨gr, 7, none⟩ = some (.slice none 0 0) := hgr1.cell 7
        have k8 : w15.cell? ⟨gr, 8, none⟩ = some (.slice none 0 0) := hgr1.cell 8
        have k9 : w15.cell? ⟨gr, 9, none⟩ = some (.int .i64 0) := hgr1.cell 9
        replace hgr1 := Lib.hid hgr1
        go_wp2_with fail
        refine ret_cellS rfl rfl rfl (put10_holds hgr1.out _ _ _ _ _ _ _ _ _ _) Try.underlying38 Try.sStmt ?_
        rw [hF.out]
        exact StPost.of (h := { hd0 s.n with k := 10, c := c.1 }) V15.out ⟨ExAt.nil_ _ _, ExAt.nil_ _ _, Tc_15.out, AgsAt.nil_ _ _, Nat.zero_le 4096, Nat.zero_le 4096, (by decide : 10 ≤ 12), hn1⟩ (Tbt_15.out) (Tbe_15.out) hz0 hba.out hgr0 hgs0 hgrl (put10_writes _ _ _ _ _ _ _ _ _ _ _ _)
       | false =>
        have hF : Hid (R = (({ hd0 s.n with k := 10, c := c.1 }, bt.1, .nil), bt.2)) := Lib.hid (by rw [hR.out]; unfold stmtF testF; simp only [hkf.out, hif, ← hs2, ← hc0, ← hs3, ← hbt, hel]; rfl)
        replace h1 := Lib.hid h1
        replace h2 := Lib.hid h2
        replace hif := Lib.hid hif
        replace hwh := Lib.hid hwh
        replace hel := Lib.hid hel
        replace hs2 := Lib.hid hs2
        replace hc0 := Lib.hid hc0
        replace hs3 := Lib.hid hs3
        replace hbt := Lib.hid hbt
        clear hfewb hst3
        refine (take_no VN.out.mv [114, 101, 116, 117, 114, 110] h1.out).mono ?_
        rintro e w1 ⟨rfl, q, hW⟩
        have V1 := Lib.hid (VN.out.call q)
        clear q hW
        go_wp2_with fail
        refine (take_no V1.out.mv [97, 115, 115, 101, 114, 116] h2.out).mono ?_
        rintro e w2 ⟨rfl, q, hW⟩
        have V2 := Lib.hid (V1.out.call q)
        clear q hW
        go_wp2_with fail
        refine (is_from V2.out.mv [105, 102] hif.out).mono ?_
        rintro e w3 ⟨rfl, q, hW⟩
        have V3 := Lib.hid (V2.out.call q)
        clear q hW
        obtain ⟨fl, fz⟩ := V3.out.facts
        have f0 : w3.cell? ⟨gs, 0, none⟩ = some (.int .i64 0) := V3.out.fact 0 rfl
        have V4 : VS C Z gs (s.one) #[.int .i64 10, .string ⟨#[]⟩, .string ⟨#[]⟩, .pointer none, .pointer none, .pointer none, .slice none 0 0, .slice none 0 0, .slice none 0 0, .int .i64 s.n] wa (w3.setCell ⟨gs, 0, none⟩ (.int .i64 10)) := (V3.out.store 0 (.int .i64 10))
        obtain ⟨w4, hw4⟩ : ∃ ww, ww = (w3.setCell ⟨gs, 0, none⟩ (.int .i64 10)) := ⟨_, rfl⟩
        rw [← hw4] at V4
        replace V4 := Lib.hid V4
        go_wp2_with fail
        rw [← hw4]
        clear hw4 fl fz f0
        refine (is_from V4.out.mv [119, 104, 105, 108, 101] hwh.out).mono ?_
        rintro e w5 ⟨rfl, q, hW⟩
        have V5 := Lib.hid (V4.out.call q)
        clear q hW
        obtain ⟨a0, d0, d1, d2, d3, d4, d5, d6, dfz⟩ := V5.out.mv.facts
        have hi5 := V5.out.at_.bounds.2.2.1
        have hw9 := i64_next (i := (s.one).i) (by omega)
        have q := V5.out.mv.next hi
        have hW : Writes [some Z.g] w5 _ := q.wr
        obtain ⟨w6, hw6⟩ : ∃ ww, ww = w5.setCell ⟨Z.g, 1, none⟩ (.int .i64 (((s.one).i : Int) + 1)) := ⟨_, rfl⟩
        rw [← hw6] at q hW
        have V6 := Lib.hid (V5.out.call q)
        clear q hW hi5
        go_wp2_with fail
        rw [← hw6]
        clear hw6 a0 d0 d1 d2 d3 d4 d5 d6 dfz hw9
        refine (want_from V6.out.mv [40] hs2.out.symm).mono ?_
        rintro e w7 ⟨rfl, q, hW⟩
        have V7 := Lib.hid (V6.out.call q)
        clear q hW
        go_wp2_with fail
        refine (hcond.near V7.out.mv hm2 hc0.out.symm).mono ?_
        rintro e w8 ⟨pc, rfl, q, hE, hW⟩
        have V8 := Lib.hid (V7.out.call q)
        have Tc := Lib.hid (hE.ge (B := wa.heap.size) V7.out.wr.size)
        clear q hW hE
        obtain ⟨fl, fz⟩ := V8.out.facts
        have f5 : w8.cell? ⟨gs, 5, none⟩ = some (.pointer none) := V8.out.fact 5 rfl
        have V9 : VS C Z gs (c.2) #[.int .i64 10, .string ⟨#[]⟩, .string ⟨#[]⟩, .pointer none, .pointer none, .pointer pc, .slice none 0 0, .slice none 0 0, .slice none 0 0, .int .i64 s.n] wa (w8.setCell ⟨gs, 5, none⟩ (.pointer pc)) := (V8.out.store 5 (.pointer pc))
        obtain ⟨w9, hw9⟩ : ∃ ww, ww = (w8.setCell ⟨gs, 5, none⟩ (.pointer pc)) := ⟨_, rfl⟩
        rw [← hw9] at V9
        replace V9 := Lib.hid V9
        have Tc_9 := (Tc.out.st hlow 5 (.pointer pc))
        rw [← hw9] at Tc_9
        replace Tc_9 := Lib.hid Tc_9
        go_wp2_with fail
        rw [← hw9]
        clear hw9 fl fz f5
        refine (want_from V9.out.mv [41] hs3.out.symm).mono ?_
        rintro e w10 ⟨rfl, q, hW⟩
        have V10 := Lib.hid (V9.out.call q)
        have Tc_10 := Lib.hid (Tc_9.out.pw hW hltz)
        clear q hW
        go_wp2_with fail
        have hcc := hblock C Z _ s3 V10.out.at_ hm3 hfew3.out
        rw [← hbt.out] at hcc
        refine hcc.mono ?_
        clear hcc
        rintro e w11 ⟨vbt, rfl, q, hE⟩
        have hW := q.wr
        have V11 := Lib.hid (V10.out.call q)
        have Tc_11 := Lib.hid (Tc_10.out.pw hW hltz)
        have Tbt := hE.ge (B := wa.heap.size) V10.out.wr.size
        obtain ⟨Abt, cbt, ev⟩ := SlAt.slice_ Tbt
        rw [ev] at Tbt ⊢
        replace Tbt := Lib.hid Tbt
        clear q hW hE ev
        obtain ⟨fl, fz⟩ := V11.out.facts
        have f0 : w11.cell? ⟨gs, 0, none⟩ = some (.int .i64 10) := V11.out.fact 0 rfl
        have f7 : w11.cell? ⟨gs, 7, none⟩ = some (.slice none 0 0) := V11.out.fact 7 rfl
        have V12 : VS C Z gs (bt.2) #[.int .i64 10, .string ⟨#[]⟩, .string ⟨#[]⟩, .pointer none, .pointer none, .pointer pc, .slice none 0 0, .slice Abt bt.1.len cbt, .slice none 0 0, .int .i64 s.n] wa (w11.setCell ⟨gs, 7, none⟩ (.slice Abt bt.1.len cbt)) := (V11.out.store 7 (.slice Abt bt.1.len cbt))
        obtain ⟨w12, hw12⟩ : ∃ ww, ww = (w11.setCell ⟨gs, 7, none⟩ (.slice Abt bt.1.len cbt)) := ⟨_, rfl⟩
        rw [← hw12] at V12
        replace V12 := Lib.hid V12
        have Tc_12 := (Tc_11.out.st hlow 7 (.slice Abt bt.1.len cbt))
        rw [← hw12] at Tc_12
        replace Tc_12 := Lib.hid Tc_12
        have Tbt_12 := (Tbt.out.st hlow 7 (.slice Abt bt.1.len cbt))
        rw [← hw12] at Tbt_12
        replace Tbt_12 := Lib.hid Tbt_12
        go_wp2_with fail
        rw [← hw12]
        clear hw12 fl fz f0 f7
        refine (take_no V12.out.mv [101, 108, 115, 101] hel.out).mono ?_
        rintro e w13 ⟨rfl, q, hW⟩
        have V13 := Lib.hid (V12.out.call q)
        have Tc_13 := Lib.hid (Tc_12.out.pw hW hltz)
        have Tbt_13 := Lib.hid (Tbt_12.out.pw hW hltz)
        clear q hW
        obtain ⟨fl, fz⟩ := V13.out.facts
        have f0 : w13.cell? ⟨gs, 0, none⟩ = some (.int .i64 10) := V13.out.fact 0 rfl
        have f1 : w13.cell? ⟨gs, 1, none⟩ = some (.string ⟨#[]⟩) := V13.out.fact 1 rfl
        have f2 : w13.cell? ⟨gs, 2, none⟩ = some (.string ⟨#[]⟩) := V13.out.fact 2 rfl
        have f3 : w13.cell? ⟨gs, 3, none⟩ = some (.pointer none) := V13.out.fact 3 rfl
        have f4 : w13.cell? ⟨gs, 4, none⟩ = some (.pointer none) := V13.out.fact 4 rfl
        have f5 : w13.cell? ⟨gs, 5, none⟩ = some (.pointer pc) := V13.out.fact 5 rfl
        have f6 : w13.cell? ⟨gs, 6, none⟩ = some (.slice none 0 0) := V13.out.fact 6 rfl
        have f7 : w13.cell? ⟨gs, 7, none⟩ = some (.slice Abt bt.1.len cbt) := V13.out.fact 7 rfl
        have f8 : w13.cell? ⟨gs, 8, none⟩ = some (.slice none 0 0) := V13.out.fact 8 rfl
        have f9 : w13.cell? ⟨gs, 9, none⟩ = some (.int .i64 s.n) := V13.out.fact 9 rfl
        have hgr1 : Holds w13 gr 38 zero10 := V13.out.wr.holds hgr.out (by simp; omega)
        have g0 := hgr1.lt
        have gz := fun i => hgr1.frozen i
        have k0 : w13.cell? ⟨gr, 0, none⟩ = some (.int .i64 0) := hgr1.cell 0
        have k1 : w13.cell? ⟨gr, 1, none⟩ = some (.string ⟨#[]⟩) := hgr1.cell 1
        have k2 : w13.cell? ⟨gr, 2, none⟩ = some (.string ⟨#[]⟩) := hgr1.cell 2
        have k3 : w13.cell? ⟨gr, 3, none⟩ = some (.pointer none) := hgr1.cell 3
        have k4 : w13.cell? ⟨gr, 4, none⟩ = some (.pointer none) := hgr1.cell 4
        have k5 : w13.cell? ⟨gr, 5, none⟩ = some (.pointer none) := hgr1.cell 5
        have k6 : w13.cell? ⟨gr, 6, none⟩ = some (.slice none 0 0) := hgr1.cell 6
        have k7 : w13.cell? ⟨gr, 7, none⟩ = some (.slice none 0 0) := hgr1.cell 7
        have k8 : w13.cell? ⟨gr, 8, none⟩ = some (.slice none 0 0) := hgr1.cell 8
        have k9 : w13.cell? ⟨gr, 9, none⟩ = some (.int .i64 0) := hgr1.cell 9
        replace hgr1 := Lib.hid hgr1
        go_wp2_with fail
        refine ret_cellS rfl rfl rfl (put10_holds hgr1.out _ _ _ _ _ _ _ _ _ _) Try.underlying38 Try.sStmt ?_
        rw [hF.out]
        exact StPost.of (h := { hd0 s.n with k := 10, c := c.1 }) V13.out ⟨ExAt.nil_ _ _, ExAt.nil_ _ _, Tc_13.out, AgsAt.nil_ _ _, Nat.zero_le 4096, Nat.zero_le 4096, (by decide : 10 ≤ 12), hn1⟩ (Tbt_13.out) (SlAt.nil_ _ _) hz0 hba.out hgr0 hgs0 hgrl (put10_writes _ _ _ _ _ _ _ _ _ _ _ _)
      | false =>
       cases hwh : isF C [119, 104, 105, 108, 101] s.one with
       | true =>
        obtain ⟨s2, hs2⟩ : ∃ yy, yy = wantF C [40] s.one.next := ⟨_, rfl⟩
        obtain ⟨c, hc0⟩ : ∃ yy, yy = cond C s2 := ⟨_, rfl⟩
        obtain ⟨s3, hs3⟩ : ∃ yy, yy = wantF C [41] c.2 := ⟨_, rfl⟩
        obtain ⟨bt, hbt⟩ : ∃ yy, yy = block C s3 := ⟨_, rfl⟩
        have hkn2 : ¬ 200 ≤ s.n := fun h => by
         have := hkf.out
         rw [decide_eq_true h, Bool.and_true] at this
         unfold knownF at this
         rw [show isF C [119, 104, 105, 108, 101] s = true from hwh] at this
         simp at this
        have hi := isF_lt hwh
        have hm2 : m ≤ s2.deep := by rw [hs2, (Stp.want _ _).dp]; exact hm
        have hm3 : m ≤ s3.deep := by rw [hs3, (Stp.want _ _).dp, hc0, (hc C _).dp]; exact hm2
        have hst3 : Stp C s.one s3 := by rw [hs3, hc0, hs2]; exact (((Stp.is_ hwh).trans (Stp.want _ _)).trans (hc C _)).trans (Stp.want _ _)
        have hfew3 : s3.Few := hst3.nn ⟨by simp only [PS.one]; omega, fun _ => by simp only [PS.one]; omega⟩
        replace hfew3 := Lib.hid hfew3
        have hF : Hid (R = (({ hd0 s.n with k := 11, c := c.1 }, bt.1, .nil), bt.2)) := Lib.hid (by rw [hR.out]; unfold stmtF testF; simp only [hkf.out, hif, hwh, ← hs2, ← hc0, ← hs3, ← hbt]; rfl)
        replace h1 := Lib.hid h1
        replace h2 := Lib.hid h2
        replace hif := Lib.hid hif
        replace hwh := Lib.hid hwh
        replace hs2 := Lib.hid hs2
        replace hc0 := Lib.hid hc0
        replace hs3 := Lib.hid hs3
        replace hbt := Lib.hid hbt
        clear hst3
        refine (take_no VN.out.mv [114, 101, 116, 117, 114, 110] h1.out).mono ?_
        rintro e w1 ⟨rfl, q, hW⟩
        have V1 := Lib.hid (VN.out.call q)
        clear q hW
        go_wp2_with fail
        refine (take_no V1.out.mv [97, 115, 115, 101, 114, 116] h2.out).mono ?_
        rintro e w2 ⟨rfl, q, hW⟩
        have V2 := Lib.hid (V1.out.call q)
        clear q hW
        go_wp2_with fail
        refine (is_from V2.out.mv [105, 102] hif.out).mono ?_
        rintro e w3 ⟨rfl, q, hW⟩
        have V3 := Lib.hid (V2.out.call q)
        clear q hW
        go_wp2_with fail
        refine (is_from V3.out.mv [119, 104, 105, 108, 101] hwh.out).mono ?_
        rintro e w4 ⟨rfl, q, hW⟩
        have V4 := Lib.hid (V3.out.call q)
        clear q hW
        obtain ⟨fl, fz⟩ := V4.out.facts
        have f0 : w4.cell? ⟨gs, 0, none⟩ = some (.int .i64 0) := V4.out.fact 0 rfl
        have V5 : VS C Z gs (s.one) #[.int .i64 10, .string ⟨#[]⟩, .string ⟨#[]⟩, .pointer none, .pointer none, .pointer none, .slice none 0 0, .slice none 0 0, .slice none 0 0, .int .i64 s.n] wa (w4.setCell ⟨gs, 0, none⟩ (.int .i64 10)) := (V4.out.store 0 (.int .i64 10))
        obtain ⟨w5, hw5⟩ : ∃ ww, ww = (w4.setCell ⟨gs, 0, none⟩ (.int .i64 10)) := ⟨_, rfl⟩
        rw [← hw5] at V5
        replace V5 := Lib.hid V5
        go_wp2_with fail
        rw [← hw5]
        clear hw5 fl fz f0
        refine (is_from V5.out.mv [119, 104, 105, 108, 101] hwh.out).mono ?_
        rintro e w6 ⟨rfl, q, hW⟩
        have V6 := Lib.hid (V5.out.call q)
        clear q hW
        obtain ⟨fl, fz⟩ := V6.out.facts
        have f0 : w6.cell? ⟨gs, 0, none⟩ = some (.int .i64 10) := V6.out.fact 0 rfl
        have V7 : VS C Z gs (s.one) #[.int .i64 11, .string ⟨#[]⟩, .string ⟨#[]⟩, .pointer none, .pointer none, .pointer none, .slice none 0 0, .slice none 0 0, .slice none 0 0, .int .i64 s.n] wa (w6.setCell ⟨gs, 0, none⟩ (.int .i64 11)) := (V6.out.store 0 (.int .i64 11))
        obtain ⟨w7, hw7⟩ : ∃ ww, ww = (w6.setCell ⟨gs, 0, none⟩ (.int .i64 11)) := ⟨_, rfl⟩
        rw [← hw7] at V7
        replace V7 := Lib.hid V7
        go_upto_region 28 with (fail)
        rw [← hw7]
        clear hw7 fl fz f0
        obtain ⟨a0, d0, d1, d2, d3, d4, d5, d6, dfz⟩ := V7.out.mv.facts
        have hi5 := V7.out.at_.bounds.2.2.1
        have hw9 := i64_next (i := (s.one).i) (by omega)
        have q := V7.out.mv.next hi
        have hW : Writes [some Z.g] w7 _ := q.wr
        obtain ⟨w8, hw8⟩ : ∃ ww, ww = w7.setCell ⟨Z.g, 1, none⟩ (.int .i64 (((s.one).i : Int) + 1)) := ⟨_, rfl⟩
        rw [← hw8] at q hW
        have V8 := Lib.hid (V7.out.call q)
        clear q hW hi5
        go_wp2_with fail
        rw [← hw8]
        clear hw8 a0 d0 d1 d2 d3 d4 d5 d6 dfz hw9
        refine (want_from V8.out.mv [40] hs2.out.symm).mono ?_
        rintro e w9 ⟨rfl, q, hW⟩
        have V9 := Lib.hid (V8.out.call q)
        clear q hW
        go_wp2_with fail
        refine (hcond.near V9.out.mv hm2 hc0.out.symm).mono ?_
        rintro e w10 ⟨pc, rfl, q, hE, hW⟩
        have V10 := Lib.hid (V9.out.call q)
        have Tc := Lib.hid (hE.ge (B := wa.heap.size) V9.out.wr.size)
        clear q hW hE
        obtain ⟨fl, fz⟩ := V10.out.facts
        have f5 : w10.cell? ⟨gs, 5, none⟩ = some (.pointer none) := V10.out.fact 5 rfl
        have V11 : VS C Z gs (c.2) #[.int .i64 11, .string ⟨#[]⟩, .string ⟨#[]⟩, .pointer none, .pointer none, .pointer pc, .slice none 0 0, .slice none 0 0, .slice none 0 0, .int .i64 s.n] wa (w10.setCell ⟨gs, 5, none⟩ (.pointer pc)) := (V10.out.store 5 (.pointer pc))
        obtain ⟨w11, hw11⟩ : ∃ ww, ww = (w10.setCell ⟨gs, 5, none⟩ (.pointer pc)) := ⟨_, rfl⟩
        rw [← hw11] at V11
        replace V11 := Lib.hid V11
        have Tc_11 := (Tc.out.st hlow 5 (.pointer pc))
        rw [← hw11] at Tc_11
        replace Tc_11 := Lib.hid Tc_11
        go_wp2_with fail
        rw [← hw11]
        clear hw11 fl fz f5
        refine (want_from V11.out.mv [41] hs3.out.symm).mono ?_
        rintro e w12 ⟨rfl, q, hW⟩
        have V12 := Lib.hid (V11.out.call q)
        have Tc_12 := Lib.hid (Tc_11.out.pw hW hltz)
        clear q hW
        go_wp2_with fail
        have hcc := hblock C Z _ s3 V12.out.at_ hm3 hfew3.out
        rw [← hbt.out] at hcc
        refine hcc.mono ?_
        clear hcc
        rintro e w13 ⟨vbt, rfl, q, hE⟩
        have hW := q.wr
        have V13 := Lib.hid (V12.out.call q)
        have Tc_13 := Lib.hid (Tc_12.out.pw hW hltz)
        have Tbt := hE.ge (B := wa.heap.size) V12.out.wr.size
        obtain ⟨Abt, cbt, ev⟩ := SlAt.slice_ Tbt
        rw [ev] at Tbt ⊢
        replace Tbt := Lib.hid Tbt
        clear q hW hE ev
        obtain ⟨fl, fz⟩ := V13.out.facts
        have f7 : w13.cell? ⟨gs, 7, none⟩ = some (.slice none 0 0) := V13.out.fact 7 rfl
        have V14 : VS C Z gs (bt.2) #[.int .i64 11, .string ⟨#[]⟩, .string ⟨#[]⟩, .pointer none, .pointer none, .pointer pc, .slice none 0 0, .slice Abt bt.1.len cbt, .slice none 0 0, .int .i64 s.n] wa (w13.setCell ⟨gs, 7, none⟩ (.slice Abt bt.1.len cbt)) := (V13.out.store 7 (.slice Abt bt.1.len cbt))
        obtain ⟨w14, hw14⟩ : ∃ ww, ww = (w13.setCell ⟨gs, 7, none⟩ (.slice Abt bt.1.len cbt)) := ⟨_, rfl⟩
        rw [← hw14] at V14
        replace V14 := Lib.hid V14
        have Tc_14 := (Tc_13.out.st hlow 7 (.slice Abt bt.1.len cbt))
        rw [← hw14] at Tc_14
        replace Tc_14 := Lib.hid Tc_14
        have Tbt_14 := (Tbt.out.st hlow 7 (.slice Abt bt.1.len cbt))
        rw [← hw14] at Tbt_14
        replace Tbt_14 := Lib.hid Tbt_14
        go_upto_region 33 with (fail)
        rw [← hw14]
        clear hw14 fl fz f7
        obtain ⟨fl, fz⟩ := V14.out.facts
        have f0 : w14.cell? ⟨gs, 0, none⟩ = some (.int .i64 11) := V14.out.fact 0 rfl
        have f1 : w14.cell? ⟨gs, 1, none⟩ = some (.string ⟨#[]⟩) := V14.out.fact 1 rfl
        have f2 : w14.cell? ⟨gs, 2, none⟩ = some (.string ⟨#[]⟩) := V14.out.fact 2 rfl
        have f3 : w14.cell? ⟨gs, 3, none⟩ = some (.pointer none) := V14.out.fact 3 rfl
        have f4 : w14.cell? ⟨gs, 4, none⟩ = some (.pointer none) := V14.out.fact 4 rfl
        have f5 : w14.cell? ⟨gs, 5, none⟩ = some (.pointer pc) := V14.out.fact 5 rfl
        have f6 : w14.cell? ⟨gs, 6, none⟩ = some (.slice none 0 0) := V14.out.fact 6 rfl
        have f7 : w14.cell? ⟨gs, 7, none⟩ = some (.slice Abt bt.1.len cbt) := V14.out.fact 7 rfl
        have f8 : w14.cell? ⟨gs, 8, none⟩ = some (.slice none 0 0) := V14.out.fact 8 rfl
        have f9 : w14.cell? ⟨gs, 9, none⟩ = some (.int .i64 s.n) := V14.out.fact 9 rfl
        have hgr1 : Holds w14 gr 38 zero10 := V14.out.wr.holds hgr.out (by simp; omega)
        have g0 := hgr1.lt
        have gz := fun i => hgr1.frozen i
        have k0 : w14.cell? ⟨gr, 0, none⟩ = some (.int .i64 0) := hgr1.cell 0
        have k1 : w14.cell? ⟨gr, 1, none⟩ = some (.string ⟨#[]⟩) := hgr1.cell 1
        have k2 : w14.cell? ⟨gr, 2, none⟩ = some (.string ⟨#[]⟩) := hgr1.cell 2
        have k3 : w14.cell? ⟨gr, 3, none⟩ = some (.pointer none) := hgr1.cell 3
        have k4 : w14.cell? ⟨gr, 4, none⟩ = some (.pointer none) := hgr1.cell 4
        have k5 : w14.cell? ⟨gr, 5, none⟩ = some (.pointer none) := hgr1.cell 5
        have k6 : w14.cell? ⟨gr, 6, none⟩ = some (.slice none 0 0) := hgr1.cell 6
        have k7 : w14.cell? ⟨gr, 7, none⟩ = some (.slice none 0 0) := hgr1.cell 7
        have k8 : w14.cell? ⟨gr, 8, none⟩ = some (.slice none 0 0) := hgr1.cell 8
        have k9 : w14.cell? ⟨gr, 9, none⟩ = some (.int .i64 0) := hgr1.cell 9
        replace hgr1 := Lib.hid hgr1
        go_wp2_with fail
        refine ret_cellS rfl rfl rfl (put10_holds hgr1.out _ _ _ _ _ _ _ _ _ _) Try.underlying38 Try.sStmt ?_
        rw [hF.out]
        exact StPost.of (h := { hd0 s.n with k := 11, c := c.1 }) V14.out ⟨ExAt.nil_ _ _, ExAt.nil_ _ _, Tc_14.out, AgsAt.nil_ _ _, Nat.zero_le 4096, Nat.zero_le 4096, (by decide : 11 ≤ 12), hn1⟩ (Tbt_14.out) (SlAt.nil_ _ _) hz0 hba.out hgr0 hgs0 hgrl (put10_writes _ _ _ _ _ _ _ _ _ _ _ _)
       | false =>
        cases h3 : isF C [42] s.one with
        | true =>
         obtain ⟨x, hx⟩ : ∃ yy, yy = (nameF C s.one.next).1 := ⟨_, rfl⟩
         obtain ⟨s2, hs2⟩ : ∃ yy, yy = (nameF C s.one.next).2 := ⟨_, rfl⟩
         obtain ⟨s3, hs3⟩ : ∃ yy, yy = wantF C [61] s2 := ⟨_, rfl⟩
         obtain ⟨r, hr⟩ : ∃ yy, yy = sum C s3 := ⟨_, rfl⟩
         obtain ⟨s5, hs5⟩ : ∃ yy, yy = wantF C [59] r.2 := ⟨_, rfl⟩
         have hF : Hid (R = (({ hd0 s.n with k := 5, x := x, e := r.1 }, .nil, .nil), s5)) := Lib.hid (by rw [hR.out, hs5, hr, hs3, hs2, hx]; unfold stmtF plainF; simp only [hkf.out, hif, hwh, h1, h2, h3]; rfl)
         have hm3 : m ≤ s3.deep := by rw [hs3, (Stp.want _ _).dp, hs2, (Stp.name _).dp]; exact hm
         have hnf : Hid (nameF C s.one.next = (x, s2)) := Lib.hid (by rw [hx, hs2])
         clear hx hs2
         replace hs3 := Lib.hid hs3
         replace hr := Lib.hid hr
         replace hs5 := Lib.hid hs5
         replace h1 := Lib.hid h1
         replace h2 := Lib.hid h2
         replace hif := Lib.hid hif
         replace hwh := Lib.hid hwh
         replace h3 := Lib.hid h3
         refine (take_no VN.out.mv [114, 101, 116, 117, 114, 110] h1.out).mono ?_
         rintro e w1 ⟨rfl, q, hW⟩
         have V1 := Lib.hid (VN.out.call q)
         clear q hW
         go_wp2_with fail
         refine (take_no V1.out.mv [97, 115, 115, 101, 114, 116] h2.out).mono ?_
         rintro e w2 ⟨rfl, q, hW⟩
         have V2 := Lib.hid (V1.out.call q)
         clear q hW
         go_wp2_with fail
         refine (is_from V2.out.mv [105, 102] hif.out).mono ?_
         rintro e w3 ⟨rfl, q, hW⟩
         have V3 := Lib.hid (V2.out.call q)
         clear q hW
         go_wp2_with fail
         refine (is_from V3.out.mv [119, 104, 105, 108, 101] hwh.out).mono ?_
         rintro e w4 ⟨rfl, q, hW⟩
         have V4 := Lib.hid (V3.out.call q)
         clear q hW
         go_wp2_with fail
         refine (take_yes V4.out.mv [42] h3.out rfl).mono ?_
         rintro e w5 ⟨rfl, q, hW⟩
         have V5 := Lib.hid (V4.out.call q)
         clear q hW
         go_wp2_with fail
         refine (name_from V5.out.mv hnf.out).mono ?_
         rintro e w6 ⟨rfl, q, xl, hW⟩
         have V6 := Lib.hid (V5.out.call q)
         clear q hW
         obtain ⟨fl, fz⟩ := V6.out.facts
         have f0 : w6.cell? ⟨gs, 0, none⟩ = some (.int .i64 0) := V6.out.fact 0 rfl
         have f1 : w6.cell? ⟨gs, 1, none⟩ = some (.string ⟨#[]⟩) := V6.out.fact 1 rfl
         have V7 : VS C Z gs (s2) #[.int .i64 5, .string (strV x), .string ⟨#[]⟩, .pointer none, .pointer none, .pointer none, .slice none 0 0, .slice none 0 0, .slice none 0 0, .int .i64 s.n] wa ((w6.setCell ⟨gs, 0, none⟩ (.int .i64 5)).setCell ⟨gs, 1, none⟩ (.string (strV x))) := ((V6.out.store 0 (.int .i64 5)).store 1 (.string (strV x)))
         obtain ⟨w7, hw7⟩ : ∃ ww, ww = ((w6.setCell ⟨gs, 0, none⟩ (.int .i64 5)).setCell ⟨gs, 1, none⟩ (.string (strV x))) := ⟨_, rfl⟩
         rw [← hw7] at V7
         replace V7 := Lib.hid V7
         go_wp2_with fail
         rw [← hw7]
         clear hw7 fl fz f0 f1
         refine (want_from V7.out.mv [61] hs3.out.symm).mono ?_
         rintro e w8 ⟨rfl, q, hW⟩
         have V8 := Lib.hid (V7.out.call q)
         clear q hW
         go_wp2_with fail
         refine (hsum.near V8.out.mv hm3 hr.out.symm).mono ?_
         rintro e w9 ⟨pr, rfl, q, hE, hW⟩
         have V9 := Lib.hid (V8.out.call q)
         have Tr := Lib.hid (hE.ge (B := wa.heap.size) V8.out.wr.size)
         clear q hW hE
         obtain ⟨fl, fz⟩ := V9.out.facts
         have f3 : w9.cell? ⟨gs, 3, none⟩ = some (.pointer none) := V9.out.fact 3 rfl
         have V10 : VS C Z gs (r.2) #[.int .i64 5, .string (strV x), .string ⟨#[]⟩, .pointer pr, .pointer none, .pointer none, .slice none 0 0, .slice none 0 0, .slice none 0 0, .int .i64 s.n] wa (w9.setCell ⟨gs, 3, none⟩ (.pointer pr)) := (V9.out.store 3 (.pointer pr))
         obtain ⟨w10, hw10⟩ : ∃ ww, ww = (w9.setCell ⟨gs, 3, none⟩ (.pointer pr)) := ⟨_, rfl⟩
         rw [← hw10] at V10
         replace V10 := Lib.hid V10
         have Tr_10 := (Tr.out.st hlow 3 (.pointer pr))
         rw [← hw10] at Tr_10
         replace Tr_10 := Lib.hid Tr_10
         go_wp2_with fail
         rw [← hw10]
         clear hw10 fl fz f3
         refine (want_from V10.out.mv [59] hs5.out.symm).mono ?_
         rintro e w11 ⟨rfl, q, hW⟩
         have V11 := Lib.hid (V10.out.call q)
         have Tr_11 := Lib.hid (Tr_10.out.pw hW hltz)
         clear q hW
         obtain ⟨fl, fz⟩ := V11.out.facts
         have f0 : w11.cell? ⟨gs, 0, none⟩ = some (.int .i64 5) := V11.out.fact 0 rfl
         have f1 : w11.cell? ⟨gs, 1, none⟩ = some (.string (strV x)) := V11.out.fact 1 rfl
         have f2 : w11.cell? ⟨gs, 2, none⟩ = some (.string ⟨#[]⟩) := V11.out.fact 2 rfl
         have f3 : w11.cell? ⟨gs, 3, none⟩ = some (.pointer pr) := V11.out.fact 3 rfl
         have f4 : w11.cell? ⟨gs, 4, none⟩ = some (.pointer none) := V11.out.fact 4 rfl
         have f5 : w11.cell? ⟨gs, 5, none⟩ = some (.pointer none) := V11.out.fact 5 rfl
         have f6 : w11.cell? ⟨gs, 6, none⟩ = some (.slice none 0 0) := V11.out.fact 6 rfl
         have f7 : w11.cell? ⟨gs, 7, none⟩ = some (.slice none 0 0) := V11.out.fact 7 rfl
         have f8 : w11.cell? ⟨gs, 8, none⟩ = some (.slice none 0 0) := V11.out.fact 8 rfl
         have f9 : w11.cell? ⟨gs, 9, none⟩ = some (.int .i64 s.n) := V11.out.fact 9 rfl
         have hgr1 : Holds w11 gr 38 zero10 := V11.out.wr.holds hgr.out (by simp; omega)
         have g0 := hgr1.lt
         have gz := fun i => hgr1.frozen i
         have k0 : w11.cell? ⟨gr, 0, none⟩ = some (.int .i64 0) := hgr1.cell 0
         have k1 : w11.cell? ⟨gr, 1, none⟩ = some (.string ⟨#[]⟩) := hgr1.cell 1
         have k2 : w11.cell? ⟨gr, 2, none⟩ = some (.string ⟨#[]⟩) := hgr1.cell 2
         have k3 : w11.cell? ⟨gr, 3, none⟩ = some (.pointer none) := hgr1.cell 3
         have k4 : w11.cell? ⟨gr, 4, none⟩ = some (.pointer none) := hgr1.cell 4
         have k5 : w11.cell? ⟨gr, 5, none⟩ = some (.pointer none) := hgr1.cell 5
         have k6 : w11.cell? ⟨gr, 6, none⟩ = some (.slice none 0 0) := hgr1.cell 6
         have k7 : w11.cell? ⟨gr, 7, none⟩ = some (.slice none 0 0) := hgr1.cell 7
         have k8 : w11.cell? ⟨gr, 8, none⟩ = some (.slice none 0 0) := hgr1.cell 8
         have k9 : w11.cell? ⟨gr, 9, none⟩ = some (.int .i64 0) := hgr1.cell 9
         replace hgr1 := Lib.hid hgr1
         go_wp2_with fail
         refine ret_cellS rfl rfl rfl (put10_holds hgr1.out _ _ _ _ _ _ _ _ _ _) Try.underlying38 Try.sStmt ?_
         rw [hF.out]
         exact StPost.of (h := { hd0 s.n with k := 5, x := x, e := r.1 }) V11.out ⟨Tr_11.out, ExAt.nil_ _ _, CnAt.nil_ _ _, AgsAt.nil_ _ _, xl, Nat.zero_le 4096, (by decide : 5 ≤ 12), hn1⟩ (SlAt.nil_ _ _) (SlAt.nil_ _ _) hz0 hba.out hgr0 hgs0 hgrl (put10_writes _ _ _ _ _ _ _ _ _ _ _ _)
        | false =>
         obtain ⟨x, hx⟩ : ∃ yy, yy = (nameF C s.one).1 := ⟨_, rfl⟩
         obtain ⟨s2, hs2⟩ : ∃ yy, yy = (nameF C s.one).2 := ⟨_, rfl⟩
         cases h4 : isF C [40] s2 with
         | true =>
          obtain ⟨r, hr⟩ : ∃ yy, yy = argsF C (sum C) s2.next := ⟨_, rfl⟩
          obtain ⟨s5, hs5⟩ : ∃ yy, yy = wantF C [59] r.2 := ⟨_, rfl⟩
          have hF : Hid (R = (({ hd0 s.n with k := 8, y := x, args := r.1 }, .nil, .nil), s5)) := Lib.hid (by rw [hR.out, hs5, hr]; unfold stmtF plainF; simp only [hkf.out, hif, hwh, h1, h2, h3, ← hs2, ← hx, h4]; rfl)
          have hm2 : m ≤ s2.next.deep := by rw [hs2]; simp only [PS.next]; rw [(Stp.name _).dp]; exact hm
          have hnf : Hid (nameF C s.one = (x, s2)) := Lib.hid (by rw [hx, hs2])
          clear hx hs2
          replace hr := Lib.hid hr
          replace hs5 := Lib.hid hs5
          replace h1 := Lib.hid h1
          replace h2 := Lib.hid h2
          replace hif := Lib.hid hif
          replace hwh := Lib.hid hwh
          replace h3 := Lib.hid h3
          replace h4 := Lib.hid h4
          refine (take_no VN.out.mv [114, 101, 116, 117, 114, 110] h1.out).mono ?_
          rintro e w1 ⟨rfl, q, hW⟩
          have V1 := Lib.hid (VN.out.call q)
          clear q hW
          go_wp2_with fail
          refine (take_no V1.out.mv [97, 115, 115, 101, 114, 116] h2.out).mono ?_
          rintro e w2 ⟨rfl, q, hW⟩
          have V2 := Lib.hid (V1.out.call q)
          clear q hW
          go_wp2_with fail
          refine (is_from V2.out.mv [105, 102] hif.out).mono ?_
          rintro e w3 ⟨rfl, q, hW⟩
          have V3 := Lib.hid (V2.out.call q)
          clear q hW
          go_wp2_with fail
          refine (is_from V3.out.mv [119, 104, 105, 108, 101] hwh.out).mono ?_
          rintro e w4 ⟨rfl, q, hW⟩
          have V4 := Lib.hid (V3.out.call q)
          clear q hW
          go_wp2_with fail
          refine (take_no V4.out.mv [42] h3.out).mono ?_
          rintro e w5 ⟨rfl, q, hW⟩
          have V5 := Lib.hid (V4.out.call q)
          clear q hW
          go_wp2_with fail
          refine (name_from V5.out.mv hnf.out).mono ?_
          rintro e w6 ⟨rfl, q, xl, hW⟩
          have V6 := Lib.hid (V5.out.call q)
          clear q hW
          go_wp2_with fail
          refine (take_yes V6.out.mv [40] h4.out rfl).mono ?_
          rintro e w7 ⟨rfl, q, hW⟩
          have V7 := Lib.hid (V6.out.call q)
          clear q hW
          go_wp2_with fail
          have hcc := args_step m sum hsum hs C Z _ s2.next V7.out.at_ hm2
          rw [← hr.out] at hcc
          refine hcc.mono ?_
          clear hcc
          rintro e w8 ⟨vr, rfl, q, hE⟩
          have hW := q.wr
          have V8 := Lib.hid (V7.out.call q)
          have Tr := hE.ge (B := wa.heap.size) V7.out.wr.size
          obtain ⟨Ar, cr, ev⟩ := agsAt_slice Tr
          rw [ev] at Tr ⊢
          replace Tr := Lib.hid Tr
          clear q hW hE ev
          obtain ⟨fl, fz⟩ := V8.out.facts
          have f0 : w8.cell? ⟨gs, 0, none⟩ = some (.int .i64 0) := V8.out.fact 0 rfl
          have f2 : w8.cell? ⟨gs, 2, none⟩ = some (.string ⟨#[]⟩) := V8.out.fact 2 rfl
          have f6 : w8.cell? ⟨gs, 6, none⟩ = some (.slice none 0 0) := V8.out.fact 6 rfl
          have V9 : VS C Z gs (r.2) #[.int .i64 8, .string ⟨#[]⟩, .string (strV x), .pointer none, .pointer none, .pointer none, .slice Ar r.1.length cr, .slice none 0 0, .slice none 0 0, .int .i64 s.n] wa (((w8.setCell ⟨gs, 0, none⟩ (.int .i64 8)).setCell ⟨gs, 2, none⟩ (.string (strV x))).setCell ⟨gs, 6, none⟩ (.slice Ar r.1.length cr)) := (((V8.out.store 0 (.int .i64 8)).store 2 (.string (strV x))).store 6 (.slice Ar r.1.length cr))
          obtain ⟨w9, hw9⟩ : ∃ ww, ww = (((w8.setCell ⟨gs, 0, none⟩ (.int .i64 8)).setCell ⟨gs, 2, none⟩ (.string (strV x))).setCell ⟨gs, 6, none⟩ (.slice Ar r.1.length cr)) := ⟨_, rfl⟩
          rw [← hw9] at V9
          replace V9 := Lib.hid V9
          have Tr_9 := (((Tr.out.st hlow 0 (.int .i64 8)).st hlow 2 (.string (strV x))).st hlow 6 (.slice Ar r.1.length cr))
          rw [← hw9] at Tr_9
          replace Tr_9 := Lib.hid Tr_9
          go_wp2_with fail
          rw [← hw9]
          clear hw9 fl fz f0 f2 f6
          refine (want_from V9.out.mv [59] hs5.out.symm).mono ?_
          rintro e w10 ⟨rfl, q, hW⟩
          have V10 := Lib.hid (V9.out.call q)
          have Tr_10 := Lib.hid (Tr_9.out.pw hW hltz)
          clear q hW
          obtain ⟨fl, fz⟩ := V10.out.facts
          have f0 : w10.cell? ⟨gs, 0, none⟩ = some (.int .i64 8) := V10.out.fact 0 rfl
          have f1 : w10.cell? ⟨gs, 1, none⟩ = some (.string ⟨#[]⟩) := V10.out.fact 1 rfl
          have f2 : w10.cell? ⟨gs, 2, none⟩ = some (.string (strV x)) := V10.out.fact 2 rfl
          have f3 : w10.cell? ⟨gs, 3, none⟩ = some (.pointer none) := V10.out.fact 3 rfl
          have f4 : w10.cell? ⟨gs, 4, none⟩ = some (.pointer none) := V10.out.fact 4 rfl
          have f5 : w10.cell? ⟨gs, 5, none⟩ = some (.pointer none) := V10.out.fact 5 rfl
          have f6 : w10.cell? ⟨gs, 6, none⟩ = some (.slice Ar r.1.length cr) := V10.out.fact 6 rfl
          have f7 : w10.cell? ⟨gs, 7, none⟩ = some (.slice none 0 0) := V10.out.fact 7 rfl
          have f8 : w10.cell? ⟨gs, 8, none⟩ = some (.slice none 0 0) := V10.out.fact 8 rfl
          have f9 : w10.cell? ⟨gs, 9, none⟩ = some (.int .i64 s.n) := V10.out.fact 9 rfl
          have hgr1 : Holds w10 gr 38 zero10 := V10.out.wr.holds hgr.out (by simp; omega)
          have g0 := hgr1.lt
          have gz := fun i => hgr1.frozen i
          have k0 : w10.cell? ⟨gr, 0, none⟩ = some (.int .i64 0) := hgr1.cell 0
          have k1 : w10.cell? ⟨gr, 1, none⟩ = some (.string ⟨#[]⟩) := hgr1.cell 1
          have k2 : w10.cell? ⟨gr, 2, none⟩ = some (.string ⟨#[]⟩) := hgr1.cell 2
          have k3 : w10.cell? ⟨gr, 3, none⟩ = some (.pointer none) := hgr1.cell 3
          have k4 : w10.cell? ⟨gr, 4, none⟩ = some (.pointer none) := hgr1.cell 4
          have k5 : w10.cell? ⟨gr, 5, none⟩ = some (.pointer none) := hgr1.cell 5
          have k6 : w10.cell? ⟨gr, 6, none⟩ = some (.slice none 0 0) := hgr1.cell 6
          have k7 : w10.cell? ⟨gr, 7, none⟩ = some (.slice none 0 0) := hgr1.cell 7
          have k8 : w10.cell? ⟨gr, 8, none⟩ = some (.slice none 0 0) := hgr1.cell 8
          have k9 : w10.cell? ⟨gr, 9, none⟩ = some (.int .i64 0) := hgr1.cell 9
          replace hgr1 := Lib.hid hgr1
          go_wp2_with fail
          refine ret_cellS rfl rfl rfl (put10_holds hgr1.out _ _ _ _ _ _ _ _ _ _) Try.underlying38 Try.sStmt ?_
          rw [hF.out]
          exact StPost.of (h := { hd0 s.n with k := 8, y := x, args := r.1 }) V10.out ⟨ExAt.nil_ _ _, ExAt.nil_ _ _, CnAt.nil_ _ _, Tr_10.out, Nat.zero_le 4096, xl, (by decide : 8 ≤ 12), hn1⟩ (SlAt.nil_ _ _) (SlAt.nil_ _ _) hz0 hba.out hgr0 hgs0 hgrl (put10_writes _ _ _ _ _ _ _ _ _ _ _ _)
         | false =>
          cases h5 : isF C [91] s2 with
          | true =>
           obtain ⟨r, hr⟩ : ∃ yy, yy = sum C s2.next := ⟨_, rfl⟩
           obtain ⟨s3, hs3⟩ : ∃ yy, yy = wantF C [93] r.2 := ⟨_, rfl⟩
           obtain ⟨s4, hs4⟩ : ∃ yy, yy = wantF C [61] s3 := ⟨_, rfl⟩
           obtain ⟨q1, hq1⟩ : ∃ yy, yy = sum C s4 := ⟨_, rfl⟩
           obtain ⟨s5, hs5⟩ : ∃ yy, yy = wantF C [59] q1.2 := ⟨_, rfl⟩
           have hF : Hid (R = (({ hd0 s.n with k := 7, y := x, e := r.1, f := q1.1 }, .nil, .nil), s5)) := Lib.hid (by rw [hR.out, hs5, hq1, hs4, hs3, hr]; unfold stmtF plainF; simp only [hkf.out, hif, hwh, h1, h2, h3, ← hs2, ← hx, h4, h5]; rfl)
           have hm2 : m ≤ s2.next.deep := by rw [hs2]; simp only [PS.next]; rw [(Stp.name _).dp]; exact hm
           have hm4 : m ≤ s4.deep := by rw [hs4, (Stp.want _ _).dp, hs3, (Stp.want _ _).dp, hr, (hs C _).dp]; exact hm2
           have hnf : Hid (nameF C s.one = (x, s2)) := Lib.hid (by rw [hx, hs2])
           clear hx hs2
           replace hr := Lib.hid hr
           replace hs3 := Lib.hid hs3
           replace hs4 := Lib.hid hs4
           replace hq1 := Lib.hid hq1
           replace hs5 := Lib.hid hs5
           replace h1 := Lib.hid h1
           replace h2 := Lib.hid h2
           replace hif := Lib.hid hif
           replace hwh := Lib.hid hwh
           replace h3 := Lib.hid h3
           replace h4 := Lib.hid h4
           replace h5 := Lib.hid h5
           refine (take_no VN.out.mv [114, 101, 116, 117, 114, 110] h1.out).mono ?_
           rintro e w1 ⟨rfl, q, hW⟩
           have V1 := Lib.hid (VN.out.call q)
           clear q hW
           go_wp2_with fail
           refine (take_no V1.out.mv [97, 115, 115, 101, 114, 116] h2.out).mono ?_
           rintro e w2 ⟨rfl, q, hW⟩
           have V2 := Lib.hid (V1.out.call q)
           clear q hW
           go_wp2_with fail
           refine (is_from V2.out.mv [105, 102] hif.out).mono ?_
           rintro e w3 ⟨rfl, q, hW⟩
           have V3 := Lib.hid (V2.out.call q)
           clear q hW
           go_wp2_with fail
           refine (is_from V3.out.mv [119, 104, 105, 108, 101] hwh.out).mono ?_
           rintro e w4 ⟨rfl, q, hW⟩
           have V4 := Lib.hid (V3.out.call q)
           clear q hW
           go_wp2_with fail
           refine (take_no V4.out.mv [42] h3.out).mono ?_
           rintro e w5 ⟨rfl, q, hW⟩
           have V5 := Lib.hid (V4.out.call q)
           clear q hW
           go_wp2_with fail
           refine (name_from V5.out.mv hnf.out).mono ?_
           rintro e w6 ⟨rfl, q, xl, hW⟩
           have V6 := Lib.hid (V5.out.call q)
           clear q hW
           go_wp2_with fail
           refine (take_no V6.out.mv [40] h4.out).mono ?_
           rintro e w7 ⟨rfl, q, hW⟩
           have V7 := Lib.hid (V6.out.call q)
           clear q hW
           go_wp2_with fail
           refine (take_yes V7.out.mv [91] h5.out rfl).mono ?_
           rintro e w8 ⟨rfl, q, hW⟩
           have V8 := Lib.hid (V7.out.call q)
           clear q hW
           go_wp2_with fail
           refine (hsum.near V8.out.mv hm2 hr.out.symm).mono ?_
           rintro e w9 ⟨pr, rfl, q, hE, hW⟩
           have V9 := Lib.hid (V8.out.call q)
           have Tr := Lib.hid (hE.ge (B := wa.heap.size) V8.out.wr.size)
           clear q hW hE
           obtain ⟨fl, fz⟩ := V9.out.facts
           have f0 : w9.cell? ⟨gs, 0, none⟩ = some (.int .i64 0) := V9.out.fact 0 rfl
           have f2 : w9.cell? ⟨gs, 2, none⟩ = some (.string ⟨#[]⟩) := V9.out.fact 2 rfl
           have f3 : w9.cell? ⟨gs, 3, none⟩ = some (.pointer none) := V9.out.fact 3 rfl
           have V10 : VS C Z gs (r.2) #[.int .i64 7, .string ⟨#[]⟩, .string (strV x), .pointer pr, .pointer none, .pointer none, .slice none 0 0, .slice none 0 0, .slice none 0 0, .int .i64 s.n] wa (((w9.setCell ⟨gs, 0, none⟩ (.int .i64 7)).setCell ⟨gs, 2, none⟩ (.string (strV x))).setCell ⟨gs, 3, none⟩ (.pointer pr)) := (((V9.out.store 0 (.int .i64 7)).store 2 (.string (strV x))).store 3 (.pointer pr))
           obtain ⟨w10, hw10⟩ : ∃ ww, ww = (((w9.setCell ⟨gs, 0, none⟩ (.int .i64 7)).setCell ⟨gs, 2, none⟩ (.string (strV x))).setCell ⟨gs, 3, none⟩ (.pointer pr)) := ⟨_, rfl⟩
           rw [← hw10] at V10
           replace V10 := Lib.hid V10
           have Tr_10 := (((Tr.out.st hlow 0 (.int .i64 7)).st hlow 2 (.string (strV x))).st hlow 3 (.pointer pr))
           rw [← hw10] at Tr_10
           replace Tr_10 := Lib.hid Tr_10
           go_wp2_with fail
           rw [← hw10]
           clear hw10 fl fz f0 f2 f3
           refine (want_from V10.out.mv [93] hs3.out.symm).mono ?_
           rintro e w11 ⟨rfl, q, hW⟩
           have V11 := Lib.hid (V10.out.call q)
           have Tr_11 := Lib.hid (Tr_10.out.pw hW hltz)
           clear q hW
           go_wp2_with fail
           refine (want_from V11.out.mv [61] hs4.out.symm).mono ?_
           rintro e w12 ⟨rfl, q, hW⟩
           have V12 := Lib.hid (V11.out.call q)
           have Tr_12 := Lib.hid (Tr_11.out.pw hW hltz)
           clear q hW
           go_wp2_with fail
           refine (hsum.near V12.out.mv hm4 hq1.out.symm).mono ?_
           rintro e w13 ⟨pq1, rfl, q, hE, hW⟩
           have V13 := Lib.hid (V12.out.call q)
           have Tr_13 := Lib.hid (Tr_12.out.pw hW hltz)
           have Tq1 := Lib.hid (hE.ge (B := wa.heap.size) V12.out.wr.size)
           clear q hW hE
           obtain ⟨fl, fz⟩ := V13.out.facts
           have f4 : w13.cell? ⟨gs, 4, none⟩ = some (.pointer none) := V13.out.fact 4 rfl
           have V14 : VS C Z gs (q1.2) #[.int .i64 7, .string ⟨#[]⟩, .string (strV x), .pointer pr, .pointer pq1, .pointer none, .slice none 0 0, .slice none 0 0, .slice none 0 0, .int .i64 s.n] wa (w13.setCell ⟨gs, 4, none⟩ (.pointer pq1)) := (V13.out.store 4 (.pointer pq1))
           obtain ⟨w14, hw14⟩ : ∃ ww, ww = (w13.setCell ⟨gs, 4, none⟩ (.pointer pq1)) := ⟨_, rfl⟩
           rw [← hw14] at V14
           replace V14 := Lib.hid V14
           have Tr_14 := (Tr_13.out.st hlow 4 (.pointer pq1))
           rw [← hw14] at Tr_14
           replace Tr_14 := Lib.hid Tr_14
           have Tq1_14 := (Tq1.out.st hlow 4 (.pointer pq1))
           rw [← hw14] at Tq1_14
           replace Tq1_14 := Lib.hid Tq1_14
           go_wp2_with fail
           rw [← hw14]
           clear hw14 fl fz f4
           refine (want_from V14.out.mv [59] hs5.out.symm).mono ?_
           rintro e w15 ⟨rfl, q, hW⟩
           have V15 := Lib.hid (V14.out.call q)
           have Tr_15 := Lib.hid (Tr_14.out.pw hW hltz)
           have Tq1_15 := Lib.hid (Tq1_14.out.pw hW hltz)
           clear q hW
           obtain ⟨fl, fz⟩ := V15.out.facts
           have f0 : w15.cell? ⟨gs, 0, none⟩ = some (.int .i64 7) := V15.out.fact 0 rfl
           have f1 : w15.cell? ⟨gs, 1, none⟩ = some (.string ⟨#[]⟩) := V15.out.fact 1 rfl
           have f2 : w15.cell? ⟨gs, 2, none⟩ = some (.string (strV x)) := V15.out.fact 2 rfl
           have f3 : w15.cell? ⟨gs, 3, none⟩ = some (.pointer pr) := V15.out.fact 3 rfl
           have f4 : w15.cell? ⟨gs, 4, none⟩ = some (.pointer pq1) := V15.out.fact 4 rfl
           have f5 : w15.cell? ⟨gs, 5, none⟩ = some (.pointer none) := V15.out.fact 5 rfl
           have f6 : w15.cell? ⟨gs, 6, none⟩ = some (.slice none 0 0) := V15.out.fact 6 rfl
           have f7 : w15.cell? ⟨gs, 7, none⟩ = some (.slice none 0 0) := V15.out.fact 7 rfl
           have f8 : w15.cell? ⟨gs, 8, none⟩ = some (.slice none 0 0) := V15.out.fact 8 rfl
           have f9 : w15.cell? ⟨gs, 9, none⟩ = some (.int .i64 s.n) := V15.out.fact 9 rfl
           have hgr1 : Holds w15 gr 38 zero10 := V15.out.wr.holds hgr.out (by simp; omega)
           have g0 := hgr1.lt
           have gz := fun i => hgr1.frozen i
           have k0 : w15.cell? ⟨gr, 0, none⟩ = some (.int .i64 0) := hgr1.cell 0
           have k1 : w15.cell? ⟨gr, 1, none⟩ = some (.string ⟨#[]⟩) := hgr1.cell 1
           have k2 : w15.cell? ⟨gr, 2, none⟩ = some (.string ⟨#[]⟩) := hgr1.cell 2
           have k3 : w15.cell? ⟨gr, 3, none⟩ = some (.pointer none) := hgr1.cell 3
           have k4 : w15.cell? ⟨gr, 4, none⟩ = some (.pointer none) := hgr1.cell 4
           have k5 : w15.cell? ⟨gr, 5, none⟩ = some (.pointer none) := hgr1.cell 5
           have k6 : w15.cell? ⟨gr, 6, none⟩ = some (.slice none 0 0) := hgr1.cell 6
           have k7 : w15.cell? ⟨gr, 7, none⟩ = some (.slice none 0 0) := hgr1.cell 7
           have k8 : w15.cell? ⟨gr, 8, none⟩ = some (.slice none 0 0) := hgr1.cell 8
           have k9 : w15.cell? ⟨gr, 9, none⟩ = some (.int .i64 0) := hgr1.cell 9
           replace hgr1 := Lib.hid hgr1
           go_wp2_with fail
           refine ret_cellS rfl rfl rfl (put10_holds hgr1.out _ _ _ _ _ _ _ _ _ _) Try.underlying38 Try.sStmt ?_
           rw [hF.out]
           exact StPost.of (h := { hd0 s.n with k := 7, y := x, e := r.1, f := q1.1 }) V15.out ⟨Tr_15.out, Tq1_15.out, CnAt.nil_ _ _, AgsAt.nil_ _ _, Nat.zero_le 4096, xl, (by decide : 7 ≤ 12), hn1⟩ (SlAt.nil_ _ _) (SlAt.nil_ _ _) hz0 hba.out hgr0 hgs0 hgrl (put10_writes _ _ _ _ _ _ _ _ _ _ _ _)
          | false =>
           obtain ⟨s3, hs3⟩ : ∃ yy, yy = wantF C [61] s2 := ⟨_, rfl⟩
           obtain ⟨r, hr⟩ : ∃ yy, yy = valueF C (sum C) (hdx s.n x) s3 := ⟨_, rfl⟩
           obtain ⟨s5, hs5⟩ : ∃ yy, yy = wantF C [59] r.2 := ⟨_, rfl⟩
           have hF : Hid (R = ((r.1, .nil, .nil), s5)) := Lib.hid (by rw [hR.out, hs5, hr, hs3]; unfold stmtF plainF; simp only [hdx, hkf.out, hif, hwh, h1, h2, h3, ← hs2, ← hx, h4, h5]; rfl)
           have hm3 : m ≤ s3.deep := by rw [hs3, (Stp.want _ _).dp, hs2, (Stp.name _).dp]; exact hm
           have hnf : Hid (nameF C s.one = (x, s2)) := Lib.hid (by rw [hx, hs2])
           clear hx hs2
           replace hs3 := Lib.hid hs3
           replace hr := Lib.hid hr
           replace hs5 := Lib.hid hs5
           replace h1 := Lib.hid h1
           replace h2 := Lib.hid h2
           replace hif := Lib.hid hif
           replace hwh := Lib.hid hwh
           replace h3 := Lib.hid h3
           replace h4 := Lib.hid h4
           replace h5 := Lib.hid h5
           refine (take_no VN.out.mv [114, 101, 116, 117, 114, 110] h1.out).mono ?_
           rintro e w1 ⟨rfl, q, hW⟩
           have V1 := Lib.hid (VN.out.call q)
           clear q hW
           go_wp2_with fail
           refine (take_no V1.out.mv [97, 115, 115, 101, 114, 116] h2.out).mono ?_
           rintro e w2 ⟨rfl, q, hW⟩
           have V2 := Lib.hid (V1.out.call q)
           clear q hW
           go_wp2_with fail
           refine (is_from V2.out.mv [105, 102] hif.out).mono ?_
           rintro e w3 ⟨rfl, q, hW⟩
           have V3 := Lib.hid (V2.out.call q)
           clear q hW
           go_wp2_with fail
           refine (is_from V3.out.mv [119, 104, 105, 108, 101] hwh.out).mono ?_
           rintro e w4 ⟨rfl, q, hW⟩
           have V4 := Lib.hid (V3.out.call q)
           clear q hW
           go_wp2_with fail
           refine (take_no V4.out.mv [42] h3.out).mono ?_
           rintro e w5 ⟨rfl, q, hW⟩
           have V5 := Lib.hid (V4.out.call q)
           clear q hW
           go_wp2_with fail
           refine (name_from V5.out.mv hnf.out).mono ?_
           rintro e w6 ⟨rfl, q, xl, hW⟩
           have V6 := Lib.hid (V5.out.call q)
           clear q hW
           go_wp2_with fail
           refine (take_no V6.out.mv [40] h4.out).mono ?_
           rintro e w7 ⟨rfl, q, hW⟩
           have V7 := Lib.hid (V6.out.call q)
           clear q hW
           go_wp2_with fail
           refine (take_no V7.out.mv [91] h5.out).mono ?_
           rintro e w8 ⟨rfl, q, hW⟩
           have V8 := Lib.hid (V7.out.call q)
           clear q hW
           go_wp2_with fail
           refine (want_from V8.out.mv [61] hs3.out.symm).mono ?_
           rintro e w9 ⟨rfl, q, hW⟩
           have V9 := Lib.hid (V8.out.call q)
           clear q hW
           obtain ⟨fl, fz⟩ := V9.out.facts
           have f1 : w9.cell? ⟨gs, 1, none⟩ = some (.string ⟨#[]⟩) := V9.out.fact 1 rfl
           have V10 : VS C Z gs (s3) #[.int .i64 0, .string (strV x), .string ⟨#[]⟩, .pointer none, .pointer none, .pointer none, .slice none 0 0, .slice none 0 0, .slice none 0 0, .int .i64 s.n] wa (w9.setCell ⟨gs, 1, none⟩ (.string (strV x))) := (V9.out.store 1 (.string (strV x)))
           obtain ⟨w10, hw10⟩ : ∃ ww, ww = (w9.setCell ⟨gs, 1, none⟩ (.string (strV x))) := ⟨_, rfl⟩
           rw [← hw10] at V10
           replace V10 := Lib.hid V10
           go_wp2_with fail
           rw [← hw10]
           clear hw10 fl fz f1
           have hcc := value_step m sum hsum hs C Z w10 s3 gs s.n x ⟨V10.out.at_, Writes.refl _ _, V10.out.hold, V10.out.lt, V10.out.hold.lt⟩ hm3 xl (by omega)
           rw [← hr.out] at hcc
           refine hcc.mono ?_
           clear hcc
           rintro e w11 ⟨rfl, ve, vf, vc, va, q, hE⟩
           have V11 : VS C Z gs r.2 (r.1.cells ve vf vc va (.slice none 0 0) (.slice none 0 0)) wa w11 := ⟨q.at_, V10.out.wr.trans q.wr, q.hold, q.lt, hlow⟩
           have Tr := hE.ge (B := wa.heap.size) V10.out.wr.size
           obtain ⟨pe, ee⟩ := Tr.e.vp
           obtain ⟨pf, ef⟩ := Tr.f.vp
           obtain ⟨pc, ec⟩ := cnAt_vp Tr.c
           obtain ⟨Aa, ca, ea⟩ := agsAt_slice Tr.a
           rw [ee, ef, ec, ea] at V11 Tr
           replace V11 := Lib.hid V11
           replace Tr := Lib.hid Tr
           clear q hE ee ef ec ea
           go_wp2_with fail
           refine (want_from V11.out.mv [59] hs5.out.symm).mono ?_
           rintro e w12 ⟨rfl, q, hW⟩
           have V12 := Lib.hid (V11.out.call q)
           have Tr_12 := Lib.hid (Tr.out.pw hW hltz)
           clear q hW
           obtain ⟨fl, fz⟩ := V12.out.facts
           have f0 : w12.cell? ⟨gs, 0, none⟩ = some (.int .i64 r.1.k) := V12.out.fact 0 rfl
           have f1 : w12.cell? ⟨gs, 1, none⟩ = some (.string (strV r.1.x)) := V12.out.fact 1 rfl
           have f2 : w12.cell? ⟨gs, 2, none⟩ = some (.string (strV r.1.y)) := V12.out.fact 2 rfl
           have f3 : w12.cell? ⟨gs, 3, none⟩ = some (.pointer pe) := V12.out.fact 3 rfl
           have f4 : w12.cell? ⟨gs, 4, none⟩ = some (.pointer pf) := V12.out.fact 4 rfl
           have f5 : w12.cell? ⟨gs, 5, none⟩ = some (.pointer pc) := V12.out.fact 5 rfl
           have f6 : w12.cell? ⟨gs, 6, none⟩ = some (.slice Aa r.1.args.length ca) := V12.out.fact 6 rfl
           have f7 : w12.cell? ⟨gs, 7, none⟩ = some (.slice none 0 0) := V12.out.fact 7 rfl
           have f8 : w12.cell? ⟨gs, 8, none⟩ = some (.slice none 0 0) := V12.out.fact 8 rfl
           have f9 : w12.cell? ⟨gs, 9, none⟩ = some (.int .i64 r.1.at_) := V12.out.fact 9 rfl
           have hgr1 : Holds w12 gr 38 zero10 := V12.out.wr.holds hgr.out (by simp; omega)
           have g0 := hgr1.lt
           have gz := fun i => hgr1.frozen i
           have k0 : w12.cell? ⟨gr, 0, none⟩ = some (.int .i64 0) := hgr1.cell 0
           have k1 : w12.cell? ⟨gr, 1, none⟩ = some (.string ⟨#[]⟩) := hgr1.cell 1
           have k2 : w12.cell? ⟨gr, 2, none⟩ = some (.string ⟨#[]⟩) := hgr1.cell 2
           have k3 : w12.cell? ⟨gr, 3, none⟩ = some (.pointer none) := hgr1.cell 3
           have k4 : w12.cell? ⟨gr, 4, none⟩ = some (.pointer none) := hgr1.cell 4
           have k5 : w12.cell? ⟨gr, 5, none⟩ = some (.pointer none) := hgr1.cell 5
           have k6 : w12.cell? ⟨gr, 6, none⟩ = some (.slice none 0 0) := hgr1.cell 6
           have k7 : w12.cell? ⟨gr, 7, none⟩ = some (.slice none 0 0) := hgr1.cell 7
           have k8 : w12.cell? ⟨gr, 8, none⟩ = some (.slice none 0 0) := hgr1.cell 8
           have k9 : w12.cell? ⟨gr, 9, none⟩ = some (.int .i64 0) := hgr1.cell 9
           replace hgr1 := Lib.hid hgr1
           go_wp2_with fail
           refine ret_cellS rfl rfl rfl (put10_holds hgr1.out _ _ _ _ _ _ _ _ _ _) Try.underlying38 Try.sStmt ?_
           rw [hF.out]
           exact StPost.of (h := r.1) V12.out Tr_12.out (SlAt.nil_ _ _) (SlAt.nil_ _ _) hz0 hba.out hgr0 hgs0 hgrl (put10_writes _ _ _ _ _ _ _ _ _ _ _ _)
end Go.Proofs.Ytpndglghpojjkaa
