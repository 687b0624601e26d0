/-
  Package wal: frames, their records, reading an area; disks without memory.
-/
import Derived.Test.YtelglbblgkhcmaaGreatWa
import Derived.Recover
import Derived.Defers
namespace Go.Proofs.YtelglbblgkhcmaaGreat
open Go.RowKit Go.Deep

def frameOf (r : List UInt8) : List UInt8 := be 4 r.length ++ (be 4 (crcOf [r]) ++ r)
def framesF (ls : List (List UInt8)) : List UInt8 := ls.flatMap frameOf
theorem frameOf_length (r : List UInt8) : (frameOf r).length = 8 + r.length := by simp [frameOf, be_length]; omega
theorem framesF_nil : framesF [] = [] := rfl
theorem framesF_append (a b : List (List UInt8)) : framesF (a ++ b) = framesF a ++ framesF b := by simp [framesF]
theorem framesF_snoc (ls : List (List UInt8)) (k : Nat) (h : k < ls.length) : framesF (ls.take (k + 1)) = framesF (ls.take k) ++ frameOf ls[k] := by
  rw [List.take_succ_eq_append_getElem h, framesF_append]
  simp [framesF]
theorem framesF_le (ls : List (List UInt8)) (k : Nat) : (framesF (ls.take k)).length ≤ (framesF ls).length := by
  conv => rhs; rw [← List.take_append_drop k ls, framesF_append, List.length_append]
  omega
theorem own_ge {w : World} {base : Nat} {e : TypeId} {v : Value} {n : Nat} {xs : List Value} (h : w.ownsRow base e 1 v n xs) {k : Nat} (hk : v.ownBlock = some k) : base ≤ k := by
  rcases h.2 with ⟨rfl, _⟩ | ⟨g, cap, cur, rfl, hb, _⟩
  · cases hk
  · simp [Value.ownBlock] at hk
    omega
def z8 : List UInt8 := List.replicate 8 0
theorem frame_head (a b : Nat) : splice (splice z8 0 (be 4 a)) 4 (be 4 b) = be 4 a ++ be 4 b := by
  have e : z8 = List.replicate 4 0 ++ List.replicate 4 0 := rfl
  rw [e]
  have q := splice_mid [] (List.replicate 4 (0 : UInt8)) (List.replicate 4 0) (be 4 a) 0 rfl (by simp [be_length])
  simp only [List.nil_append] at q
  rw [q]
  have q2 := splice_mid (be 4 a) (List.replicate 4 (0 : UInt8)) [] (be 4 b) 4 (be_length 4 a) (by simp [be_length])
  simpa using q2

set_option maxRecDepth 100000 in
set_option maxHeartbeats 4000000 in
theorem frames_any (w : World) (A : Option Addr) (n c : Nat) (ls : List (List UInt8)) (hn : ls.length = n) (hm : n ≤ 100000000) (hs : Slices w w.heap.size A ls) (hb : (framesF ls).length ≤ 100000000) :
    Calls Tryz.prog 111 #[.slice A n c] w fun e w' => (∃ v, e = .returned v ∧ NewB w w' (framesF ls) v) ∧ Below w.heap.size w w' := by
  subst hn
  obtain ⟨iS, hiS, hzS0, hzS1, hzS2⟩ := info_parts Tryz.infoU8
  have hs' := Lib.hid hs
  clear hs
  go_enter Tryz.func111, Tryz.ntmps111
  go_wp2_with fail
  go_loopw [3, 9] (fun v iv wr => ∃ k : Nat, k ≤ ls.length ∧ iv = .int .i64 k ∧ Hid (wr.ownsRow w.heap.size 5 1 v (framesF (ls.take k)).length ((framesF (ls.take k)).map byteV)) ∧ Hid (Below w.heap.size w wr)) (fun _ iv _ => ls.length - (intOf iv).toNat)
  case atStart => exact ⟨0, by omega, rfl, Lib.hid (World.ownsRow_nil _ _ _ _), Lib.hid (Below.refl _ _)⟩
  obtain ⟨k, hk, rfl, hO, hB⟩ := hrel
  by_cases hlt : k < ls.length
  · obtain ⟨b, off, Ai, ci, rfl, hbB, hcell, hby, hmx⟩ := (hs'.out.below hB.out).at_ hlt
    have hsn := Lib.hid (framesF_snoc ls k hlt)
    have hle := Lib.hid (framesF_le ls (k + 1))
    have hrl : ls[k].length ≤ 100000000 := by
      have := hle.out
      rw [hsn.out, List.length_append, frameOf_length] at this
      omega
    obtain ⟨r, hr⟩ : ∃ r, r = ls[k] := ⟨_, rfl⟩
    rw [← hr] at hcell hby hmx hsn hrl
    have hby' := Lib.hid hby
    clear hr hby hmx hbB
    go_wp2_with fail
    have hH0 : Holds (wr.alloc (.cells (z8.map byteV).toArray 198)) wr.heap.size 198 (z8.map byteV).toArray := Holds.new wr _ _
    have hb0 := below_new wr (.cells (z8.map byteV).toArray 198)
    change Calls Tryz.prog 129 _ (wr.alloc (.cells (z8.map byteV).toArray 198)) _
    obtain ⟨gf, hgf⟩ : ∃ g, g = wr.heap.size := ⟨_, rfl⟩
    rw [← hgf] at hH0 ⊢
    have hgf' := Lib.hid hgf
    have hb0' := Lib.hid hb0
    have hH := Lib.hid hH0
    clear hH0 hb0 hgf
    generalize wr.alloc (.cells (z8.map byteV).toArray 198) = w1 at hH hb0' ⊢
    refine (put_any w1 gf 0 4 8 198 z8 r.length (by omega) hH.out (by decide) (by decide)).mono ?_
    rintro e w2 ⟨rfl, hh2, hw2⟩
    have hH2 := Lib.hid hh2
    have hb2 : Hid (Below wr.heap.size wr w2) := Lib.hid (hb0'.out.trans (hw2.below hb0'.out.size (fun j hj => by simp at hj; have := hgf'.out; omega)))
    have hB2 : Hid (Below w.heap.size w w2) := Lib.hid (hB.out.trans (hb2.out.mono hB.out.size))
    have hby2 : Hid (Bytes w2 w.heap.size Ai r) := Lib.hid (hby'.out.below (hb2.out.mono hB.out.size))
    have hl2 : Hid ((splice z8 0 (be 4 r.length)).length = 8) := Lib.hid (by rw [length_splice _ _ _ (by rw [be_length]; decide)]; rfl)
    clear hh2 hw2 hb0' hH
    go_wp2_with fail
    -- THE REGION THAT DRAWS ITS ORDER, BY ONE LEXICAL WALK OVER GENERIC VALUES (written by relgen.py)
    refine wp_region_tabL ((fun _ _ v => v = .slice (some ⟨gf, 4, none⟩) 4 4) ::
      (fun _ _ v => v = .slice Ai r.length ci) ::
      (fun L w v => ∃ A, v = .slice A 1 1 ∧ Till 5 (fun w v => Slices w w.heap.size A [r]) L w v) ::
      (fun _ _ v => v = .int .u32 (crcOf [r] : Nat)) ::
      (fun _ _ v => v = .int .u64 (crcOf [r] : Nat)) ::
      (fun _ _ v => v = .tuple #[]) :: [])
      (⟨[(6, none)], 0, [5]⟩ :: ⟨[(5, none)], 0, [5]⟩ :: ⟨[(19, some 1)], 0, [5]⟩ :: ⟨[(20, some 2)], 0, [5]⟩ :: ⟨[(21, some 3)], 0, [5]⟩ :: ⟨[(18, some 0), (22, some 4)], 0, []⟩ :: [])
      (none :: none :: none :: none :: none :: none :: none :: none :: none :: none :: none :: none :: none :: none :: none :: none :: none :: none :: some 0 :: some 1 :: some 2 :: some 3 :: some 4 :: some 5 :: [])
      (fun L w' => CS 5 4 w2 (fun w' => Holds w' gf 198 ((splice (splice z8 0 (be 4 r.length)) 4 (be 4 (crcOf [r]))).map byteV).toArray ∧ Writes [some gf] w2 w') L w') (fun i w w' => i ≠ 5 → Below w.heap.size w w') ?mixK7frames7 ?okK7frames7 ?tabK7frames7 ?frK7frames7 ?inK7frames7 ?keptK7frames7 ?startK7frames7 ?eachK7frames7 ?finK7frames7
    case mixK7frames7 => kernel_rfl
    case okK7frames7 => kernel_rfl
    case tabK7frames7 => kernel_rfl
    case frK7frames7 => kernel_rfl
    case inK7frames7 => rfl
    case keptK7frames7 => exact ⟨fun _ _ _ _ _ _ _ _ _ _ _ h => h, fun _ _ _ _ _ _ _ _ _ _ _ h => h, fun i hne hrd L w w' v hLi hC hC' hG ⟨A, e, h⟩ => ⟨A, e, Till.keepN h hne (fun _ h2 => hG h2) (fun hb h => h.up hb)⟩, fun _ _ _ _ _ _ _ _ _ _ _ h => h, fun _ _ _ _ _ _ _ _ _ _ _ h => h, fun _ _ _ _ _ _ _ _ _ _ _ h => h, trivial⟩
    case startK7frames7 => exact ⟨fun _ => (Below.refl _ _).drew, fun e => by simp at e⟩
    case eachK7frames7 =>
      refine ⟨?_, ?_, ?_, ?_, ?_, ?_, trivial⟩
      -- 0: slot 18 := slice 198 t6 (some (const (4:i64))) none none
      · intro w L f hC hLi hLd hLn hF
        obtain ⟨d6, _⟩ := hF
        have d6 : f 6 = .pointer (some ⟨gf, 0, none⟩) := d6
        refine Step2.live rfl ?_
        have ev : ∀ t, evalOf f (.tmp t) = f t := fun _ => rfl
        have ec : ∀ c, evalOf f (.const c) = c := fun _ => rfl
        have ef : ∀ g, evalOf f (.func g) = .func (.func g) #[] #[] := fun _ => rfl
        refine relUpon_value ?_ (hC.go (i := 0) (hLn 5 (by simp)) (by decide) (Below.refl _ _)) (fun _ => Below.refl _ _) rfl
        go_simp
      -- 1: slot 19 := move t5
      · intro w L f hC hLi hLd hLn hF
        obtain ⟨d5, _⟩ := hF
        have d5 : f 5 = .slice Ai r.length ci := d5
        refine Step2.live rfl ?_
        exact relUpon_value (v := f 5) rfl (hC.go (i := 1) (hLn 5 (by simp)) (by decide) (Below.refl _ _)) (fun _ => Below.refl _ _) d5
      -- 2: slot 20 := buildSlice 72 1 #[(0, t19)]
      · intro w L f hC hLi hLd hLn hF
        obtain ⟨d19, _⟩ := hF
        have d19 : f 19 = .slice Ai r.length ci := d19
        refine Step2.live rfl ?_
        have hw := hC.bel (hLn 5 (by simp))
        have hbr : Bytes w w.heap.size Ai r := (hby2.out.below (hw.mono hB2.out.size)).more (Nat.le_trans hB2.out.size hw.size)
        have ev : ∀ t, evalOf f (.tmp t) = f t := fun _ => rfl
        have ec : ∀ c, evalOf f (.const c) = c := fun _ => rfl
        have ef : ∀ g, evalOf f (.func g) = .func (.func g) #[] #[] := fun _ => rfl
        refine relUpon_value (w' := w.alloc (.cells #[.slice Ai r.length ci] 37)) (v := .slice (some ⟨w.heap.size, 0, none⟩) 1 1) ?_ (hC.go (i := 2) (hLn 5 (by simp)) (by decide) (below_new _ _)) (fun _ => below_new _ _) ⟨_, rfl, fun _ => Slices.one 37 rfl (by unfold maxLen; omega) hbr⟩
        go_simp
      -- 3: slot 21 := call { value (Operand.func 104), args := #[t20], argTypes := #[72] }
      · intro w L f hC hLi hLd hLn hF
        obtain ⟨d20, _⟩ := hF
        refine Step2.live rfl ?_
        obtain ⟨A, hA, hsl⟩ := d20
        have ev : ∀ t, evalOf f (.tmp t) = f t := fun _ => rfl
        have ec : ∀ c, evalOf f (.const c) = c := fun _ => rfl
        have ef : ∀ g, evalOf f (.func g) = .func (.func g) #[] #[] := fun _ => rfl
        refine relUpon_call (f := 104) (args := #[.slice A 1 1]) (w := w) (by go_simp) (crc_len w A 1 1 [r] (hsl (hLn 5 (by simp))) rfl (by unfold maxLen; omega)) ?_
        rintro e w1 ⟨he, hB⟩
        exact ⟨_, he, hC.go (i := 3) (hLn 5 (by simp)) (by decide) hB, fun _ => hB, rfl⟩
      -- 4: slot 22 := convert 166 59 t21
      · intro w L f hC hLi hLd hLn hF
        obtain ⟨d21, _⟩ := hF
        have d21 : f 21 = .int .u32 (crcOf [r] : Nat) := d21
        refine Step2.live rfl ?_
        have hcw := IntWalk.u64_in ((crcOf [r] : Nat) : Int) (by have := crcOf_lt [r]; omega)
        have ev : ∀ t, evalOf f (.tmp t) = f t := fun _ => rfl
        have ec : ∀ c, evalOf f (.const c) = c := fun _ => rfl
        have ef : ∀ g, evalOf f (.func g) = .func (.func g) #[] #[] := fun _ => rfl
        refine relUpon_value ?_ (hC.go (i := 4) (hLn 5 (by simp)) (by decide) (Below.refl _ _)) (fun _ => Below.refl _ _) rfl
        go_simp
      -- 5: slot 23 := call { value (Operand.func 129), args := #[t18, t22], argTypes := #[37, 59] }
      · intro w L f hC hLi hLd hLn hF
        obtain ⟨d18, d22, _⟩ := hF
        have d18 : f 18 = .slice (some ⟨gf, 4, none⟩) 4 4 := d18
        have d22 : f 22 = .int .u64 (crcOf [r] : Nat) := d22
        refine Step2.live rfl ?_
        have hw := hC.bel hLi
        have hbs := hH2.out.below hw hH2.out.lt
        have ev : ∀ t, evalOf f (.tmp t) = f t := fun _ => rfl
        have ec : ∀ c, evalOf f (.const c) = c := fun _ => rfl
        have ef : ∀ g, evalOf f (.func g) = .func (.func g) #[] #[] := fun _ => rfl
        refine relUpon_call (f := 129) (args := #[.slice (some ⟨gf, 4, none⟩) 4 4, .int .u64 (crcOf [r] : Nat)]) (w := w) (by go_simp) (put_any w gf 4 4 4 198 _ (crcOf [r]) (by have := crcOf_lt [r]; omega) hbs (by rw [hl2.out]; omega) (by rw [hl2.out]; omega)) ?_
        rintro e w1 ⟨he, hB, hW⟩
        exact ⟨_, he, CS.last (hLd 4 (by decide)) ⟨hB, (Writes.of_below hw _).trans hW⟩, fun h => absurd rfl h, rfl⟩
    intro x w' hC hV

    obtain ⟨hh3, hw3⟩ := (hC.2 rfl).2
    clear hV
    simp only [framed]
    rw [frame_head] at hh3
    have hb3 : Hid (Below wr.heap.size wr w') := Lib.hid (hb2.out.trans (hw3.below hb2.out.size (fun j hj => by simp at hj; have := hgf'.out; omega)))
    have hO3 := Lib.hid (own_below hO.out hb3.out)
    have hB3 := Lib.hid (hB.out.trans (hb3.out.mono hB.out.size))
    have hby3 := Lib.hid (hby'.out.below (hb3.out.mono hB.out.size))
    have hrow3 : Hid (Row w' w'.heap.size (some ⟨gf, 0, none⟩) ((be 4 r.length ++ be 4 (crcOf [r])).map byteV)) := Lib.hid (Bytes.ofHolds _ hh3 hh3.lt)
    have hlen : Hid ((framesF (ls.take k)).length + 8 + r.length ≤ 100000000) := Lib.hid (by
      have := hle.out
      rw [hsn.out, List.length_append, frameOf_length] at this
      omega)
    have hs3 := Lib.hid hB3.out.size
    clear hC hh3 hw3 hb2 hB2 hby2 hH2 hl2 hb3
    obtain ⟨w3, hw3⟩ : ∃ x, x = w' := ⟨_, rfl⟩
    rw [← hw3] at hO3 hB3 hby3 hrow3 hs3 ⊢
    clear hw3
    go_wp2_with (first
      | (with_reducible refine at_slot 26 ?_
         go_loud (refine wpList_append_row _ rfl (.tmp 24) (.tmp 25) 37 rfl w.heap.size 5 iS (.int .u8 0) 1 Tryz.underlying37 hiS hzS0 hzS1 hzS2 rfl u3 _ _ rfl hO3.out w3.heap.size (some ⟨gf, 0, none⟩) 8 8 ((be 4 r.length ++ be 4 (crcOf [r])).map byteV) rfl (by simp [be_length]) hrow3.out byte_one (by have := hlen.out; unfold maxLen; omega) (by have := hlen.out; omega) hs3.out ?_)
         intro v4 w4 ho4 hg4 _
         have hB34 : Hid (Below w.heap.size w3 w4) := Lib.hid ((Writes.of_grown hg4 (M := [u3.ownBlock]) (by simp)).below hs3.out (fun j hj => own_ge hO3.out (List.mem_singleton.1 hj).symm))
         have hO4 := Lib.hid ho4
         have hby4 := Lib.hid (hby3.out.below hB34.out)
         have hs4 := Lib.hid (Nat.le_trans hs3.out hB34.out.size)
         have hB4 := Lib.hid (hB3.out.trans hB34.out)
         clear ho4 hg4)
      | (with_reducible refine at_slot 29 ?_
         go_loud (refine wpList_append_row _ rfl (.tmp 27) (.tmp 28) 37 rfl w.heap.size 5 iS (.int .u8 0) 1 Tryz.underlying37 hiS hzS0 hzS1 hzS2 rfl v4 _ _ rfl hO4.out w.heap.size Ai r.length ci (r.map byteV) rfl (by simp) hby4.out byte_one (by have := hlen.out; unfold maxLen; omega) (by have := hlen.out; omega) hs4.out ?_)
         intro v5 w5 ho5 hg5 _
         have hB5 : Hid (Below w.heap.size w w5) := Lib.hid (hB4.out.trans ((Writes.of_grown hg5 (M := [v4.ownBlock]) (by simp)).below hs4.out (fun j hj => own_ge hO4.out (List.mem_singleton.1 hj).symm)))
         have hO5 := Lib.hid ho5
         clear ho5 hg5)
      | go_in)
    go_roundw
    case rel =>
      refine ⟨k + 1, by omega, by go_num, Lib.hid ?_, hB5⟩
      have := hO5.out
      rw [hsn.out, List.length_append, frameOf_length, List.map_append]
      rw [List.append_assoc, ← List.map_append, List.append_assoc] at this
      rw [show (framesF (ls.take k)).length + (8 + r.length) = (framesF (ls.take k)).length + 8 + r.length by omega]
      exact this
    case measure => simp [intOf]; omega
  · obtain rfl : k = ls.length := by omega
    rw [List.take_length] at hO
    go_wp2_with fail
    go_ret
    exact ⟨⟨u3, rfl, hO.out⟩, hB.out⟩
end Go.Proofs.YtelglbblgkhcmaaGreat
namespace Go.Proofs.YtelglbblgkhcmaaGreat
open Go.RowKit Go.Deep

/-- The first frame's record, and what follows the frame. -/
def cutF (l : List UInt8) : Option (List UInt8 × List UInt8) :=
  if l.length < 8 then none
  else if 1048576 < getN (l.take 4) ∨ l.length - 8 < getN (l.take 4) then none
  else if getN ((l.drop 4).take 4) = crcOf [(l.drop 8).take (getN (l.take 4))] then some ((l.drop 8).take (getN (l.take 4)), l.drop (8 + getN (l.take 4)))
  else none
def PanE (e : Ending) : Prop := ∃ s, e = .panicked [{ v := .iface 9 (.string s), recovered := false }]
def CutE (l : List UInt8) (S : Option Addr) (w : World) (e : Ending) (w' : World) : Prop :=
  (match cutF l with
    | none => PanE e
    | some (r, rest) => ∃ v A c, e = .returned (.tuple #[v, .slice A rest.length c]) ∧ NewB w w' r v ∧ RowAt w' A (rest.map byteV) ∧ blk A = blk S ∧ rest.length ≤ c) ∧ Below w.heap.size w w'
theorem CutE.no {l : List UInt8} {S : Option Addr} {w w' : World} {e : Ending} (h : cutF l = none) (he : PanE e) (hb : Below w.heap.size w w') : CutE l S w e w' := by
  unfold CutE
  rw [h]
  exact ⟨he, hb⟩
theorem CutE.yes {l : List UInt8} {S : Option Addr} {w w' : World} {e : Ending} {r rest : List UInt8} (h : cutF l = some (r, rest)) (he : ∃ v A c, e = .returned (.tuple #[v, .slice A rest.length c]) ∧ NewB w w' r v ∧ RowAt w' A (rest.map byteV) ∧ blk A = blk S ∧ rest.length ≤ c) (hb : Below w.heap.size w w') : CutE l S w e w' := by
  unfold CutE
  rw [h]
  exact ⟨he, hb⟩
set_option maxRecDepth 100000 in
set_option maxHeartbeats 4000000 in
theorem cut_any' (w : World) (A : Option Addr) (n c : Nat) (l : List UInt8) (hl : l.length = n) (hc : n ≤ c) (hm : n ≤ 100000000) (hb : RowAt w A (l.map byteV)) :
    Calls Tryz.prog 75 #[.slice A n c] w (CutE l A w) := by
  by_cases h8 : n < 8
  · have hno : Hid (cutF l = none) := Lib.hid (by unfold cutF; rw [if_pos (by omega)])
    go_enter Tryz.func75, Tryz.ntmps75
    go_wp2
    exact ⟨rfl, .no hno.out ⟨_, rfl⟩ (Below.refl _ _)⟩
  obtain ⟨b, o, rfl, _⟩ := hb (by intro e; simp at e; rw [e] at hl; simp at hl; omega)
  have hc0 := get_any w (some ⟨b, o, none⟩) 4 c (l.take 4) (by simp; omega) (by omega) (by have := hb.sub 0 4; simpa using this)
  have hc4 := fun (w' : World) (cc : Nat) (hb' : RowAt w' (some ⟨b, o, none⟩) (l.map byteV)) => get_any w' (some ⟨b, o + 4, none⟩) 4 cc ((l.drop 4).take 4) (by simp; omega) (by omega) (hb'.sub 4 4)
  have hv0 : getN (l.take 4) < 4294967296 := by
    have := getN_lt (l.take 4)
    rw [show (l.take 4).length = 4 by simp; omega] at this
    exact this
  have hv4 : getN ((l.drop 4).take 4) < 4294967296 := by
    have := getN_lt ((l.drop 4).take 4)
    rw [show ((l.drop 4).take 4).length = 4 by simp; omega] at this
    exact this
  have hF : Hid (cutF l = if 1048576 < getN (l.take 4) ∨ n - 8 < getN (l.take 4) then none else if getN ((l.drop 4).take 4) = crcOf [(l.drop 8).take (getN (l.take 4))] then some ((l.drop 8).take (getN (l.take 4)), l.drop (8 + getN (l.take 4))) else none) := Lib.hid (by unfold cutF; rw [if_neg (by omega), hl])
  generalize getN (l.take 4) = v at *
  generalize getN ((l.drop 4).take 4) = x at *
  have n4 : ¬ c = 4 := by omega
  have hwx := IntWalk.u64_in ((n : Int) - 8) (by omega)
  have hb' := Lib.hid hb
  clear hb
  by_cases h1 : 1048576 < v
  · have hno : Hid (cutF l = none) := Lib.hid (by rw [hF.out, if_pos (.inl h1)])
    go_enter Tryz.func75, Tryz.ntmps75
    go_wp2_with fail
    refine hc0.mono ?_
    rintro e w2 ⟨rfl, rfl⟩
    go_wp2_with fail
    exact ⟨rfl, .no hno.out ⟨_, rfl⟩ (Below.refl _ _)⟩
  by_cases h2 : n - 8 < v
  · have hno : Hid (cutF l = none) := Lib.hid (by rw [hF.out, if_pos (.inr h2)])
    have hq : decide ((1048576 : Int) < (v : Int)) = false := by simp; omega
    have hq2 : decide ((n : Int) - 8 < (v : Int)) = true := by simp; omega
    go_enter Tryz.func75, Tryz.ntmps75
    go_wp2_with fail
    refine hc0.mono ?_
    rintro e w2 ⟨rfl, rfl⟩
    go_wp2_with fail
    exact ⟨rfl, .no hno.out ⟨_, rfl⟩ (Below.refl _ _)⟩
  have hq : decide ((1048576 : Int) < (v : Int)) = false := by simp; omega
  have hq2 : decide ((n : Int) - 8 < (v : Int)) = false := by simp; omega
  have hF2 : Hid (cutF l = if x = crcOf [(l.drop 8).take v] then some ((l.drop 8).take v, l.drop (8 + v)) else none) := Lib.hid (by rw [hF.out, if_neg (by omega)])
  have hrl : Hid (((l.drop 8).take v).length = v) := Lib.hid (by simp; omega)
  have hrr : Hid (RowAt w (some ⟨b, o + 8, none⟩) (((l.drop 8).take v).map byteV)) := Lib.hid (hb'.out.sub 8 v)
  have hdl : Hid ((l.drop (8 + v)).length = n - (8 + v)) := Lib.hid (by simp; omega)
  have hdr : Hid (∀ w', RowAt w' (some ⟨b, o, none⟩) (l.map byteV) → RowAt w' (some ⟨b, o + (8 + v), none⟩) ((l.drop (8 + v)).map byteV)) := Lib.hid (fun w' h => by
    have := h.sub (8 + v) n
    rwa [List.take_of_length_le (by simp; omega)] at this)
  obtain ⟨r, hr⟩ : ∃ r, r = (l.drop 8).take v := ⟨_, rfl⟩
  obtain ⟨d, hd⟩ : ∃ d, d = l.drop (8 + v) := ⟨_, rfl⟩
  rw [← hr] at hF2 hrl hrr
  rw [← hd] at hF2 hdl hdr
  clear hr hd hF
  have hcr := Lib.hid (crcOf_lt [r])
  have hcw := Lib.hid (IntWalk.u64_in ((crcOf [r] : Nat) : Int) (by have := hcr.out; omega))
  go_enter Tryz.func75, Tryz.ntmps75
  go_wp2_with fail
  refine hc0.mono ?_
  clear hc0
  rintro e w2 ⟨rfl, rfl⟩
  go_wp2_with fail
  all_goals
    refine (clone_any _ _ v _ r hrl.out (by omega) (by first | exact hrr.out | exact fun h => absurd (show r.map byteV = [] by rw [List.eq_nil_of_length_eq_zero (show r.length = 0 by have := hrl.out; omega)]; rfl) h)).mono ?_
    rintro e w3 ⟨⟨vr, rfl, hv⟩, hb3⟩
    have hb4 := Lib.hid (hb'.out.below hb3)
    have hB3 := Lib.hid hb3
    have hV3 := Lib.hid hv
    obtain ⟨A3, c3, rfl, hrow3, _⟩ := own_row hv
    rw [hrl.out]
    have hro3 : Hid (Bytes w3 w3.heap.size A3 r) := Lib.hid hrow3
    clear hb3 hv hrow3
    go_wp2_with fail
    refine (hc4 w3 _ hb4.out).mono ?_
    rintro e w4 ⟨rfl, rfl⟩
    go_wp2_with fail
    have hsl := Slices.one 37 (c := c3) hrl.out (by unfold maxLen; omega) hro3.out
    have hbn := below_new w4 (.cells #[.slice A3 v c3] 37)
    refine (crc_len _ _ 1 1 [r] hsl rfl (by unfold maxLen; omega)).mono ?_
    clear hsl
    rintro e w5 ⟨rfl, hb5⟩
    have hB5 : Hid (Below w4.heap.size w4 w5) := Lib.hid (hbn.trans (hb5.mono hbn.size))
    have hb6 := Lib.hid (hb4.out.below hB5.out)
    have hV5 := Lib.hid (own_below hV3.out hB5.out)
    have hBB := Lib.hid (hB3.out.trans (hB5.out.mono hB3.out.size))
    clear hbn hb5
    have hcw' := hcw.out
    generalize hcg : crcOf [r] = cr at *
    by_cases hx : x = cr
    case neg =>
      have hq3 : ((x : Int) == (cr : Int)) = false := by simp; omega
      have hno : Hid (cutF l = none) := Lib.hid (by rw [hF2.out, if_neg hx])
      go_wp2_with fail
      exact ⟨rfl, .no hno.out ⟨_, rfl⟩ hBB.out⟩
    have hq3 : ((x : Int) == (cr : Int)) = true := by simp; omega
    have hyes : Hid (cutF l = some (r, d)) := Lib.hid (by rw [hF2.out, if_pos hx])
    have hw1 := IntWalk.i64_in (v : Int) (by omega)
    have hw2 := IntWalk.i64_in (8 + (v : Int)) (by omega)
    have hw3 : (8 + (v : Int)).toNat = 8 + v := by omega
    have hw4 : (0 : Int) ≤ 8 + (v : Int) := by omega
    have hw5 : 8 + (v : Int) ≤ (n : Int) := by omega
    clear hcw' hcr hcw
    by_cases hcc : c = 8 + v
    · have hcn : Hid (d = []) := Lib.hid (List.eq_nil_of_length_eq_zero (by rw [hdl.out]; omega))
      go_wp2_with fail
      go_quiet (fail)
      go_wp2_with fail
      go_ret2
      refine .yes hyes.out ⟨.slice A3 r.length c3, some ⟨b, o, none⟩, 0, ?_, hV5.out, fun h => absurd (by rw [hcn.out]; rfl) h, rfl, by rw [hcn.out]; simp⟩ (below_drewN hBB.out _)
      rw [hrl.out, hdl.out]
      rfl
    · try (exfalso; omega)
      all_goals
        go_wp2_with fail
        go_quiet (fail)
        go_wp2_with fail
        go_ret2
        refine .yes hyes.out ⟨.slice A3 r.length c3, some ⟨b, o + (8 + v), none⟩, c - (8 + v), ?_, hV5.out, hdr.out _ hb6.out, rfl, by rw [hdl.out]; omega⟩ (below_drewN hBB.out _)
        rw [hrl.out, hdl.out]
        rfl
end Go.Proofs.YtelglbblgkhcmaaGreat
namespace Go.Proofs.YtelglbblgkhcmaaGreat
open Go.RowKit Go.Deep

def unfr : Nat → List UInt8 → Option (List (List UInt8))
  | 0, l => if l = [] then some [] else none
  | k + 1, l => if l = [] then some [] else (cutF l).bind fun p => (unfr k p.2).map (p.1 :: ·)
def unframeF (l : List UInt8) (count : Nat) : Option (List (List UInt8)) := (unfr l.length l).bind fun rs => if rs.length = count then some rs else none
theorem unfr_nil (k : Nat) : unfr k [] = some [] := by cases k <;> simp [unfr]
theorem cutF_less {l r rest : List UInt8} (h : cutF l = some (r, rest)) : rest.length + 8 ≤ l.length := by
  unfold cutF at h
  split at h
  · cases h
  split at h
  · cases h
  split at h
  · injection h with h
    injection h with _ h
    subst h
    simp
    omega
  · cases h
theorem unfr_cut {k : Nat} {l r rest : List UInt8} (h : cutF l = some (r, rest)) (hk : l.length ≤ k + 1) : unfr (k + 1) l = (unfr k rest).map (r :: ·) := by
  have hne : l ≠ [] := by
    rintro rfl
    simp [cutF] at h
  rw [unfr, if_neg hne, h]
  rfl
theorem unfr_no {k : Nat} {l : List UInt8} (h : cutF l = none) (hne : l ≠ []) : unfr k l = none := by
  cases k with
  | zero => rw [unfr, if_neg hne]
  | succ k => rw [unfr, if_neg hne, h]; rfl
/-- More fuel than bytes changes nothing. -/
theorem unfr_fuel (k l) (h : List.length l ≤ k) : unfr k l = unfr l.length l := by
  induction k using Nat.strongRecOn generalizing l with
  | _ k ih =>
  rcases Nat.lt_or_ge l.length k with hlt | hge
  · by_cases hne : l = []
    · subst hne
      rw [unfr_nil, unfr_nil]
    · cases hc : cutF l with
      | none => rw [unfr_no hc hne, unfr_no hc hne]
      | some p =>
        obtain ⟨r, rest⟩ := p
        have h8 := cutF_less hc
        obtain ⟨k', rfl⟩ : ∃ k', k = k' + 1 := ⟨k - 1, by omega⟩
        obtain ⟨m, hm⟩ : ∃ m, l.length = m + 1 := ⟨l.length - 1, by omega⟩
        rw [hm, unfr_cut hc (by omega), unfr_cut hc (by omega), ih k' (by omega) rest (by omega), ih m (by omega) rest (by omega)]
  · rw [show k = l.length by omega]
theorem unfr_step {l r rest : List UInt8} (h : cutF l = some (r, rest)) : unfr l.length l = (unfr rest.length rest).map (r :: ·) := by
  have h8 := cutF_less h
  obtain ⟨m, hm⟩ : ∃ m, l.length = m + 1 := ⟨l.length - 1, by omega⟩
  rw [hm, unfr_cut h (by omega), unfr_fuel m rest (by omega)]
theorem cutF_frame (r t : List UInt8) (h : r.length ≤ 1048576) : cutF (frameOf r ++ t) = some (r, t) := by
  have hl : (frameOf r ++ t).length = 8 + r.length + t.length := by rw [List.length_append, frameOf_length]
  have e4 : (frameOf r ++ t).take 4 = be 4 r.length := by
    unfold frameOf
    rw [List.append_assoc, List.take_left' (be_length 4 _)]
  have e48 : ((frameOf r ++ t).drop 4).take 4 = be 4 (crcOf [r]) := by
    unfold frameOf
    rw [List.append_assoc, List.drop_left' (be_length 4 _), List.append_assoc, List.take_left' (be_length 4 _)]
  have e8 : (frameOf r ++ t).drop 8 = r ++ t := by
    have : frameOf r ++ t = (be 4 r.length ++ be 4 (crcOf [r])) ++ (r ++ t) := by simp [frameOf]
    rw [this, List.drop_left' (by simp [be_length])]
  have hg : getN (be 4 r.length) = r.length := by rw [getN_be]; exact Nat.mod_eq_of_lt (by omega)
  have hc : getN (be 4 (crcOf [r])) = crcOf [r] := by rw [getN_be]; exact Nat.mod_eq_of_lt (by have := crcOf_lt [r]; omega)
  unfold cutF
  rw [e4, e48, hg, hc, if_neg (by omega), if_neg (by omega), ← List.drop_drop, e8, List.take_left, List.drop_left, if_pos rfl]
theorem unfr_frames (ls : List (List UInt8)) (h : ∀ r ∈ ls, r.length ≤ 1048576) : unfr (framesF ls).length (framesF ls) = some ls := by
  induction ls with
  | nil => rfl
  | cons r t ih =>
    have e : framesF (r :: t) = frameOf r ++ framesF t := by simp [framesF]
    rw [e, unfr_step (cutF_frame r (framesF t) (h r (by simp))), ih (fun x hx => h x (by simp [hx]))]
    rfl
theorem unframe_frames (ls : List (List UInt8)) (h : ∀ r ∈ ls, r.length ≤ 1048576) : unframeF (framesF ls) ls.length = some ls := by
  unfold unframeF
  rw [unfr_frames ls h]
  simp
end Go.Proofs.YtelglbblgkhcmaaGreat
namespace Go.Proofs.YtelglbblgkhcmaaGreat
open Go.RowKit Go.Deep

theorem catch_unf (p q : Addr) (u : TypeId) (pv : Value) (older : List PanicEntry) (w : World) (x y : Value) (hp : w.cell? p = some x) (hpz : w.frozen? p = false) (hq : (w.setCell p (.slice none 0 0)).cell? q = some y) (hqz : (w.setCell p (.slice none 0 0)).frozen? q = false) :
    CallsD Tryz.prog 74 #[.pointer (some p), .pointer (some q)] (.panicking ({ v := .iface u pv, recovered := false } :: older)) w fun e u' w' =>
      e = .returned (.tuple #[]) ∧ u' = .panicking ({ v := .iface u pv, recovered := true } :: older) ∧ w' = (w.setCell p (.slice none 0 0)).setCell q (.bool false) := by
  refine callsD_of_wpS Tryz.func74 rfl fun c₀ cs hu => ?_
  apply wpS_seq
  apply wpS_region
  simp [wpOpsS, go_sem, recoverD, hu, Tryz.ntmps74, Exit.thenS]
  refine wpS_cond (t := true) (by simp [Act.eval, Array.replicate]) ?_
  simp only [if_true]
  apply wpS_region
  simp [wpOpsS, go_sem, hp, hpz, hq, hqz, bodyPostS, results, Tryz.results74]
theorem idle_unf (p q : Addr) (w : World) :
    CallsD Tryz.prog 74 #[.pointer (some p), .pointer (some q)] .returning w fun e u' w' => e = .returned (.tuple #[]) ∧ u' = .returning ∧ w' = w := by
  refine callsD_of_wpS Tryz.func74 rfl fun c₀ cs hu => ?_
  apply wpS_seq
  apply wpS_region
  simp [wpOpsS, go_sem, recoverD, hu, Tryz.ntmps74, Exit.thenS]
  refine wpS_cond (t := false) (by simp [Act.eval, Array.replicate]) ?_
  simp only [Bool.false_eq_true, if_false]
  refine wpS_of_wp (wp_skip ?_)
  cases c₀
  simp_all [bodyPostS, results, Tryz.results74]
/-- v holds the records ps, in blocks from B on. -/
def RecsAt (B : Nat) (w : World) (v : Value) (ps : List Pay) : Prop := w.ownsRow B 37 1 v ps.length (ps.map Pay.val) ∧ ∀ p ∈ ps, w.ownsRow B 5 1 p.val p.l.length (p.l.map byteV)
theorem RecsAt.below {B : Nat} {w w' : World} {v : Value} {ps : List Pay} (h : RecsAt B w v ps) (hb : Below w.heap.size w w') : RecsAt B w' v ps := ⟨own_below h.1 hb, fun p hp => own_below (h.2 p hp) hb⟩
def UnfE (l : List UInt8) (count : Nat) (w : World) (e : Ending) (w' : World) : Prop :=
  (match unframeF l count with
    | none => e = .returned (.tuple #[.slice none 0 0, .bool false])
    | some rs => ∃ v ps, e = .returned (.tuple #[v, .bool true]) ∧ RecsAt w.heap.size w' v ps ∧ ps.map (·.l) = rs) ∧ Below w.heap.size w w'
theorem UnfE.no {l : List UInt8} {count : Nat} {w w' : World} {e : Ending} (h : unframeF l count = none) (he : e = .returned (.tuple #[.slice none 0 0, .bool false])) (hb : Below w.heap.size w w') : UnfE l count w e w' := by
  unfold UnfE
  rw [h]
  exact ⟨he, hb⟩
theorem UnfE.yes {l : List UInt8} {count : Nat} {w w' : World} {e : Ending} {v : Value} {ps : List Pay} (h : unframeF l count = some (ps.map (·.l))) (he : e = .returned (.tuple #[v, .bool true])) (hr : RecsAt w.heap.size w' v ps) (hb : Below w.heap.size w w') : UnfE l count w e w' := by
  unfold UnfE
  rw [h]
  exact ⟨⟨v, ps, he, hr, rfl⟩, hb⟩
def lenOf : Value → Nat
  | .slice _ n _ => n
  | _ => 0
theorem PayRow {B : Nat} {w : World} {p : Pay} (h : w.ownsRow B 5 1 p.val p.l.length (p.l.map byteV)) : PayAt w p := by
  obtain ⟨A, c, e, hr, _⟩ := own_row h
  unfold Pay.val at e
  injection e with e1 _ _
  unfold PayAt
  rw [e1]
  exact hr.rowAt
theorem NewB.pay {w w' : World} {l : List UInt8} {v : Value} (h : NewB w w' l v) : ∃ p : Pay, v = p.val ∧ p.l = l ∧ w'.ownsRow w.heap.size 5 1 p.val p.l.length (p.l.map byteV) := by
  obtain ⟨A, c, rfl, _⟩ := own_row h
  exact ⟨⟨A, c, l⟩, rfl, rfl, h⟩
/-- The room of the loop. -/
structure UnfL (w : World) (g : Nat) (l : List UInt8) (A : Option Addr) (l' : List UInt8) (ps : List Pay) (v : Value) (wr : World) : Prop where
  eq : unfr l.length l = (unfr l'.length l').map (ps.map (·.l) ++ ·)
  row : Row wr w.heap.size A (l'.map byteV)
  h4 : Holds wr g 72 #[v]
  h5 : Holds wr (g + 1) 4 #[.bool false]
  recs : RecsAt w.heap.size wr v ps
  bel : Below w.heap.size w wr
  g : g = w.heap.size
  len : ps.length + l'.length ≤ l.length
theorem load_sl {w : World} {g : Nat} {v : Value} (c : w.cell? ⟨g, 0, none⟩ = some v) : (loadVar 72 ⟨g, 0, none⟩).run Tryz.prog w = .ok v w := by
  simp [loadVar, go_sem, c]
theorem load_bo {w : World} {g : Nat} {v : Value} (c : w.cell? ⟨g, 0, none⟩ = some v) : (loadVar 4 ⟨g, 0, none⟩).run Tryz.prog w = .ok v w := by
  simp [loadVar, go_sem, c]
theorem own_ne_hold {w : World} {B : Nat} {e t : TypeId} {v : Value} {n : Nat} {xs : List Value} {g : Nat} {cs : Array Value} (ho : w.ownsRow B e 1 v n xs) (hh : Holds w g t cs) (hne : e ≠ t) : v.ownBlock ≠ some g := by
  rcases ho.2 with ⟨rfl, _⟩ | ⟨g', cap, cur, rfl, _, hg, _⟩
  · simp [Value.ownBlock]
  · simp only [Value.ownBlock, ne_eq, Option.some.injEq]
    rintro rfl
    unfold Holds at hh
    rw [hh] at hg
    injection hg with hg
    injection hg with _ hg
    exact hne hg.symm
/-- One more record. -/
theorem RecsAt.snoc {B : Nat} {w w' : World} {v v' : Value} {ps : List Pay} {p : Pay} (h : RecsAt B w v ps) (hp : w.ownsRow B 5 1 p.val p.l.length (p.l.map byteV)) (ho : w'.ownsRow B 37 1 v' (ps.length + 1) (ps.map Pay.val ++ [p.val])) (hg : w.grownBy w' v.ownBlock) : RecsAt B w' v' (ps ++ [p]) := by
  have hk : Keeps B 5 w w' := Keeps.other h.1 (by decide) hg
  refine ⟨by simpa using ho, fun x hx => ?_⟩
  rcases List.mem_append.1 hx with hx | hx
  · exact hk _ _ _ (h.2 x hx)
  · rw [List.mem_singleton.1 hx]
    exact hk _ _ _ hp
theorem RecsAt.store' {B : Nat} {w : World} {v u : Value} {ps : List Pay} {g : Nat} {cs : Array Value} {t : TypeId} (h : RecsAt B w v ps) (h1 : 37 ≠ t) (h2 : 5 ≠ t) (hh : Holds w g t cs) : RecsAt B (w.setCell ⟨g, 0, none⟩ u) v ps := by
  have hw := Writes.store w (M := [some g]) (p := ⟨g, 0, none⟩) (by simp) u
  have key : ∀ {e : TypeId} {x : Value} {n : Nat} {xs : List Value}, e ≠ t → w.ownsRow B e 1 x n xs → (w.setCell ⟨g, 0, none⟩ u).ownsRow B e 1 x n xs := fun hne ho => Writes.own hw ho (.inr (by simp; exact own_ne_hold ho hh hne))
  exact ⟨key h1 h.1, fun p hp => key h2 (h.2 p hp)⟩
theorem RecsAt.store {B : Nat} {w : World} {v u : Value} {ps : List Pay} {g : Nat} {cs : Array Value} (h : RecsAt B w v ps) (hh : Holds w g 72 cs) : RecsAt B (w.setCell ⟨g, 0, none⟩ u) v ps := h.store' (by decide) (by decide) hh
theorem Tryz.rSl : (Tryz.prog.info? 37).map (fun i => (i.zero, i.size, i.bytes)) = some (some (.slice none 0 0), 1, 24) := by kernel_rfl
theorem results_cell_cell {fn : Func} {p q : Tmp} {tmps : Array Value} {w : World} {g h : Nat} {ty ty2 : TypeId} {v u : Value} (hr : fn.results = #[.cell p ty, .cell q ty2]) (hp : tmps.getD p undef = .pointer (some ⟨g, 0, none⟩)) (hq : tmps.getD q undef = .pointer (some ⟨h, 0, none⟩))
    (h1 : (loadVar ty ⟨g, 0, none⟩).run Tryz.prog w = .ok v w) (h2 : (loadVar ty2 ⟨h, 0, none⟩).run Tryz.prog w = .ok u w) : (results fn tmps).run Tryz.prog w = .ok (.tuple #[v, u]) w := by
  have hp' : tmps[p]?.getD undef = .pointer (some ⟨g, 0, none⟩) := by simpa [Array.getD_eq_getD_getElem?] using hp
  have hq' : tmps[q]?.getD undef = .pointer (some ⟨h, 0, none⟩) := by simpa [Array.getD_eq_getD_getElem?] using hq
  simp [results, hr, hp', hq', asAddr, h1, h2]
set_option maxRecDepth 100000 in
set_option maxHeartbeats 4000000 in
theorem unframe_any (w : World) (A : Option Addr) (n c : Nat) (l : List UInt8) (count : Nat) (hl : l.length = n) (hc : n ≤ c) (hm : n ≤ 100000000) (hb : RowAt w A (l.map byteV)) :
    Calls Tryz.prog 46 #[.slice A n c, .int .i64 count] w (UnfE l count w) := by
  have hmf : ∀ (fn : Fn) (first cap : Array Value) (w : World), (Instr.makeFunc fn first cap).run Tryz.prog w = .ok (.func fn first cap) w := fun _ _ _ _ => rfl
  go_enter_defers Tryz.func46, Tryz.ntmps46
  go_wp2_with fail
  obtain ⟨g, hg⟩ : ∃ g, g = w.heap.size := ⟨_, rfl⟩
  rw [← hg]
  have hL0 : UnfL w g l A l [] (.slice none 0 0) ((w.alloc (.cells #[.slice none 0 0] 72)).alloc (.cells #[.bool false] 4)) := by
    have b1 := below_new w (.cells #[.slice none 0 0] 72)
    have b2 := below_new (w.alloc (.cells #[.slice none 0 0] 72)) (.cells #[.bool false] 4)
    have hh1 := (Holds.new w 72 #[.slice none 0 0]).below b2 (by simp)
    have hh2 := Holds.new (w.alloc (.cells #[.slice none 0 0] 72)) 4 #[.bool false]
    rw [show (w.alloc (.cells #[.slice none 0 0] 72)).heap.size = w.heap.size + 1 by simp] at hh2
    have bb := b1.trans (b2.mono b1.size)
    rw [hg]
    exact ⟨by cases unfr l.length l <;> simp, hb.row.below bb, hh1, hh2, ⟨World.ownsRow_nil _ _ _ _, fun p hp => by cases hp⟩, bb, rfl, by simp⟩
  have hL1 := Lib.hid hL0
  clear hL0 hg hb
  generalize (w.alloc (.cells #[.slice none 0 0] 72)).alloc (.cells #[.bool false] 4) = w1 at hL1 ⊢
  obtain ⟨iS, hiS, hzS0, hzS1, hzS2⟩ := info_parts Tryz.rSl
  go_loopw [0] (fun bv wr => ∃ (A' : Option Addr) (l' : List UInt8) (c' : Nat) (ps : List Pay) (v : Value), bv = .slice A' l'.length c' ∧ l'.length ≤ c' ∧ l'.length ≤ 100000000 ∧ Hid (UnfL w g l A' l' ps v wr)) (fun bv _ => lenOf bv)
  case atStart => exact ⟨A, l, c, [], _, by rw [hl], by omega, by omega, hL1⟩
  obtain ⟨A', l', c', ps, v, rfl, hc', hm', hL⟩ := hrel
  by_cases h0 : l' = []
  · subst h0
    obtain ⟨Av, cv, rfl, _⟩ := own_row hL.out.recs.1
    have c4 := hL.out.h4.cell 0
    have z4 := hL.out.h4.frozen 0
    have c5 := hL.out.h5.cell 0
    have z5 := hL.out.h5.frozen 0
    have hps : Hid (unfr l.length l = some (ps.map (·.l))) := Lib.hid (by rw [hL.out.eq]; simp [unfr])
    have hkeep : Hid (∀ a b, Below w.heap.size w ((wr.setCell ⟨g, 0, none⟩ a).setCell ⟨g + 1, 0, none⟩ b)) := Lib.hid (fun a b => hL.out.bel.trans (((Writes.store wr (M := [some g, some (g + 1)]) (p := ⟨g, 0, none⟩) (by simp) _).trans (Writes.store _ (p := ⟨g + 1, 0, none⟩) (by simp) _)).below hL.out.bel.size (fun j hj => by simp at hj; have := hL.out.g; omega)))
    have hplen : Hid (ps.length ≤ 100000000) := Lib.hid (by have := hL.out.len; omega)
    by_cases hcn : ps.length = count
    · have hyes : Hid (unframeF l count = some (ps.map (·.l))) := Lib.hid (by unfold unframeF; rw [hps.out]; simp [hcn])
      have hq : ((ps.length : Int) != (count : Int)) = false := by simp; omega
      have hcn2 := Lib.hid hcn
      clear hcn
      go_wp2_with fail
      refine leaves_cons (f := 74) (args := #[.pointer (some ⟨g, 0, none⟩), .pointer (some ⟨g + 1, 0, none⟩)]) (by simp) (by simp [go_sem]) ?_
      refine (idle_unf ⟨g, 0, none⟩ ⟨g + 1, 0, none⟩ _).mono ?_
      rintro e u' w'' ⟨rfl, rfl, rfl⟩
      have hh4 := (hL.out.h4.store 0 (.slice Av ps.length cv)).apart (p := ⟨g + 1, 0, none⟩) (by simp) (.bool true)
      have hh5 := (hL.out.h5.apart (p := ⟨g, 0, none⟩) (by simp) (.slice Av ps.length cv)).store 0 (.bool true)
      have hr4 := hL.out.recs.store (u := .slice Av ps.length cv) hL.out.h4
      have hx5 := hL.out.h5.apart (p := ⟨g, 0, none⟩) (by simp) (.slice Av ps.length cv)
      exact ⟨_, results_cell_cell rfl rfl rfl (load_sl (hh4.cell 0)) (load_bo (hh5.cell 0)), UnfE.yes hyes.out rfl (hr4.store' (by decide) (by decide) hx5) (hkeep.out _ _)⟩
    · have hno : Hid (unframeF l count = none) := Lib.hid (by unfold unframeF; rw [hps.out]; simp [hcn])
      have hq : ((ps.length : Int) != (count : Int)) = true := by simp; omega
      have hcn2 := Lib.hid hcn
      clear hcn
      go_wp2_with fail
      refine leaves_cons (f := 74) (args := #[.pointer (some ⟨g, 0, none⟩), .pointer (some ⟨g + 1, 0, none⟩)]) (by simp) (by simp [go_sem]) ?_
      refine (idle_unf ⟨g, 0, none⟩ ⟨g + 1, 0, none⟩ _).mono ?_
      rintro e u' w'' ⟨rfl, rfl, rfl⟩
      have hh4 := (hL.out.h4.store 0 (.slice none 0 0)).apart (p := ⟨g + 1, 0, none⟩) (by simp) (.bool false)
      have hh5 := (hL.out.h5.apart (p := ⟨g, 0, none⟩) (by simp) (.slice none 0 0)).store 0 (.bool false)
      exact ⟨_, results_cell_cell rfl rfl rfl (load_sl (hh4.cell 0)) (load_bo (hh5.cell 0)), UnfE.no hno.out rfl (hkeep.out _ _)⟩
  have hpos : 0 < l'.length := List.length_pos_iff.2 h0
  have hcut := cut_any' wr A' l'.length c' l' rfl hc' hm' hL.out.row.rowAt
  obtain ⟨n', hn'⟩ : ∃ n', n' = l'.length := ⟨_, rfl⟩
  rw [← hn'] at hpos hcut hc' hm' ⊢
  have hn2 := Lib.hid hn'
  clear hn'
  go_wp2_with fail
  refine hcut.mono ?_
  clear hcut
  rintro e w2 ⟨hcE, hb2⟩
  have hL2 : Hid (UnfL w g l A' l' ps v w2) := Lib.hid ⟨hL.out.eq, hL.out.row.below (hb2.mono hL.out.bel.size), hL.out.h4.below hb2 hL.out.h4.lt, hL.out.h5.below hb2 hL.out.h5.lt, hL.out.recs.below hb2, hL.out.bel.trans (hb2.mono hL.out.bel.size), hL.out.g, hL.out.len⟩
  have hs2 := Lib.hid hL.out.bel.size
  cases hcf : cutF l' with
  | none =>
    rw [hcf] at hcE
    obtain ⟨s, rfl⟩ := hcE
    have hno : Hid (unframeF l count = none) := Lib.hid (by unfold unframeF; rw [hL.out.eq, unfr_no hcf h0]; rfl)
    have c4 := hL2.out.h4.cell 0
    have z4 := hL2.out.h4.frozen 0
    have hh5 := hL2.out.h5.apart (p := ⟨g, 0, none⟩) (by simp) (.slice none 0 0)
    have hh4 := (hL2.out.h4.store 0 (.slice none 0 0)).apart (p := ⟨g + 1, 0, none⟩) (by simp) (.bool false)
    have hcc := catch_unf ⟨g, 0, none⟩ ⟨g + 1, 0, none⟩ 9 (.string s) [] w2 _ _ c4 z4 (hh5.cell 0) (hh5.frozen 0)
    have hfin : Hid (Below w.heap.size w ((w2.setCell ⟨g, 0, none⟩ (.slice none 0 0)).setCell ⟨g + 1, 0, none⟩ (.bool false))) := Lib.hid (hL2.out.bel.trans (((Writes.store w2 (M := [some g, some (g + 1)]) (p := ⟨g, 0, none⟩) (by simp) _).trans (Writes.store _ (p := ⟨g + 1, 0, none⟩) (by simp) _)).below hL2.out.bel.size (fun j hj => by simp at hj; have := hL2.out.g; omega)))
    have hh6 := Lib.hid (hh5.store 0 (.bool false))
    have hh7 := Lib.hid hh4
    clear hcf hL hL1 hb2 c4 z4 hh5 hh4
    go_wp2_with fail
    refine leaves_cons (f := 74) (args := #[.pointer (some ⟨g, 0, none⟩), .pointer (some ⟨g + 1, 0, none⟩)]) (by simp) (by simp [go_sem]) ?_
    refine hcc.mono ?_
    rintro e u' w'' ⟨rfl, rfl, rfl⟩
    have e4 := hh7.out.cell 0
    have e5 := hh6.out.cell 0
    exact ⟨_, results_cell_cell rfl rfl rfl (load_sl e4) (load_bo e5), UnfE.no hno.out rfl hfin.out⟩
  | some p =>
    obtain ⟨r, rest⟩ := p
    rw [hcf] at hcE
    obtain ⟨rv, Ar, cr, rfl, hNB, hrow2, hbk, hcr⟩ := hcE
    obtain ⟨pp, rfl, hpl, hpo⟩ := hNB.pay
    have hrest : Hid (Row w2 w.heap.size Ar (rest.map byteV)) := Lib.hid (fun hne => by
      obtain ⟨b, off, e, hc2⟩ := hrow2 hne
      obtain ⟨b1, o1, e1, hlt, _⟩ := hL.out.row (by simpa using h0)
      rw [e, e1] at hbk
      injection hbk with hbk
      subst hbk
      exact ⟨_, off, e, hlt, hc2⟩)
    have hless := cutF_less hcf
    have heq : Hid (unfr l.length l = (unfr rest.length rest).map ((ps ++ [pp]).map (·.l) ++ ·)) := Lib.hid (by
      rw [hL.out.eq, unfr_step hcf, Option.map_map]
      congr 1
      funext x
      simp [hpl])
    obtain ⟨Av, cv, rfl, _⟩ := own_row hL2.out.recs.1
    have hb3 := below_new w2 (.cells #[pp.val] 37)
    have hpo2 : Hid (w2.ownsRow w.heap.size 5 1 pp.val pp.l.length (pp.l.map byteV)) := Lib.hid (own_base hpo hs2.out)
    have c4 := hL2.out.h4.cell 0
    have hr3 : Hid (RecsAt w.heap.size (w2.alloc (.cells #[pp.val] 37)) (.slice Av ps.length cv) ps) := Lib.hid (hL2.out.recs.below hb3)
    have hp3 : Hid ((w2.alloc (.cells #[pp.val] 37)).ownsRow w.heap.size 5 1 pp.val pp.l.length (pp.l.map byteV)) := Lib.hid (own_below hpo2.out hb3)
    have hrow3 : Hid (Row (w2.alloc (.cells #[pp.val] 37)) (w2.alloc (.cells #[pp.val] 37)).heap.size (some ⟨w2.heap.size, 0, none⟩) [pp.val]) := Lib.hid (Row.one w2 37 pp.val)
    have hsz3 := Lib.hid (Nat.le_trans hL2.out.bel.size hb3.size)
    have hB3 := Lib.hid hb3
    have hone : Hid (∀ u ∈ [pp.val], u.oneCell' = true) := Lib.hid (fun u hu => by rw [List.mem_singleton.1 hu]; rfl)
    have hlen : Hid (ps.length + n' ≤ 100000000) := Lib.hid (by have := hL.out.len; have := hn2.out; omega)
    have hpos2 : Hid (0 < n') := Lib.hid hpos
    have hl2 := Lib.hid hless
    have hcr2 := Lib.hid hcr
    clear hcf hNB hrow2 hbk hb3 hpo hless hL hL1 hb2 hcr hpl
    unfold Pay.val at hr3 hp3 hrow3 hB3 hone ⊢
    go_wp2_with
      (with_reducible refine at_slot 19 ?_
       go_loud (refine wpList_append_row _ rfl (.tmp 16) (.tmp 18) 72 rfl w.heap.size 37 iS (.slice none 0 0) 24 Tryz.underlying72 hiS hzS0 hzS1 hzS2 rfl (.slice Av ps.length cv) ps.length (ps.map Pay.val) rfl hr3.out.1 _ (some ⟨w2.heap.size, 0, none⟩) 1 1 [.slice pp.A pp.l.length pp.c] rfl rfl hrow3.out hone.out (by have := hlen.out; have := hpos2.out; unfold maxLen; omega) (by have := hlen.out; have := hpos2.out; omega) hsz3.out ?_)
       intro v4 w4 ho4 hg4 _
       have hr4 := Lib.hid (hr3.out.snoc hp3.out ho4 hg4)
       have hh4 := (hL2.out.h4.below hB3.out hL2.out.h4.lt)
       have hn4 := own_ne_hold hr3.out.1 hh4 (by decide)
       have hh5 := (hL2.out.h5.below hB3.out hL2.out.h5.lt)
       have hn5 := own_ne_hold hr3.out.1 hh5 (by decide)
       have h44 := Lib.hid (hh4.grown hg4 (fun e => hn4 e.symm))
       have h54 := Lib.hid (hh5.grown hg4 (fun e => hn5 e.symm))
       have hB4 : Hid (Below w.heap.size w2 w4) := Lib.hid ((hB3.out.mono hL2.out.bel.size).trans ((Writes.of_grown hg4 (M := [(Value.slice Av ps.length cv).ownBlock]) (by simp)).below hsz3.out (fun j hj => own_ge hr3.out.1 (List.mem_singleton.1 hj).symm)))
       obtain ⟨A4, c44, rfl, _⟩ := own_row ho4
       have k4 := h44.out.cell 0
       have z4 := h44.out.frozen 0
       clear ho4 hg4 hh4 hh5 hn4 hn5)
    go_roundw
    case rel =>
      refine ⟨Ar, rest, cr, ps ++ [pp], .slice A4 (ps.length + 1) c44, rfl, hcr2.out, by have := hl2.out; have := hn2.out; omega, Lib.hid ?_⟩
      have hws : Writes [some g] w4 (w4.setCell ⟨g, 0, none⟩ (.slice A4 (ps.length + 1) c44)) := Writes.store w4 (by simp) _
      have hBs : Below w.heap.size w4 (w4.setCell ⟨g, 0, none⟩ (.slice A4 (ps.length + 1) c44)) := hws.below (Nat.le_trans hL2.out.bel.size hB4.out.size) (fun j hj => by simp at hj; have := hL2.out.g; omega)
      refine ⟨heq.out, (hrest.out.below hB4.out).below hBs, h44.out.store 0 _, h54.out.apart (by simp) _, hr4.out.store h44.out, (hL2.out.bel.trans hB4.out).trans hBs, hL2.out.g, ?_⟩
      have := hL2.out.len
      have := hl2.out
      simp
      omega
    case measure => simp [lenOf]; have := hl2.out; have := hn2.out; omega
end Go.Proofs.YtelglbblgkhcmaaGreat
namespace Go.Proofs.YtelglbblgkhcmaaGreat
open Go.RowKit Go.Deep

section
variable {l : LR} {q : DR} {w w' : World}
theorem LogP.lt (h : LogP l q w) : l.g < w.heap.size := Holds.lt h
theorem LogP.below (h : LogP l q w) (hb : Below w.heap.size w w') : LogP l q w' := Holds.below h hb h.lt
theorem LogP.c0 (h : LogP l q w) : w.cell? ⟨l.g, 0, none⟩ = some (.pointer (some ⟨q.g, 0, none⟩)) := Holds.cell h 0
theorem LogP.c1 (h : LogP l q w) : w.cell? ⟨l.g, 1, none⟩ = some (.int .u64 l.serial) := Holds.cell h 1
theorem LogP.c2 (h : LogP l q w) : w.cell? ⟨l.g, 2, none⟩ = some (.int .i64 l.area) := Holds.cell h 2
theorem LogP.c3 (h : LogP l q w) : w.cell? ⟨l.g, 3, none⟩ = some (.int .i64 l.used) := Holds.cell h 3
theorem LogP.c4 (h : LogP l q w) : w.cell? ⟨l.g, 4, none⟩ = some (.int .i64 l.count) := Holds.cell h 4
theorem LogP.c5 (h : LogP l q w) : w.cell? ⟨l.g, 5, none⟩ = some (.int .i64 l.slot) := Holds.cell h 5
end
/-- The bytes of k sectors from base on. -/
def secsF (X : Int → List UInt8) (base k : Nat) : List UInt8 := (List.range k).flatMap fun i => X ((base + i : Nat) : Int)
theorem secsF_succ (X : Int → List UInt8) (base k : Nat) : secsF X base (k + 1) = secsF X base k ++ X ((base + k : Nat) : Int) := by
  unfold secsF
  rw [List.range_succ, List.flatMap_append]
  simp
theorem secsF_length (X : Int → List UInt8) (base k s : Nat) (h : ∀ i, (X i).length = s) : (secsF X base k).length = k * s := by
  induction k with
  | zero => simp [secsF]
  | succ k ih => rw [secsF_succ, List.length_append, ih, h, Nat.succ_mul]
theorem secsF_prefix (X : Int → List UInt8) (base k m s u : Nat) (h : ∀ i, (X i).length = s) (hk : k ≤ m) (hu : u ≤ k * s) : (secsF X base m).take u = (secsF X base k).take u := by
  induction m with
  | zero => obtain rfl : k = 0 := by omega
            rfl
  | succ m ih =>
    rcases Nat.lt_or_ge k (m + 1) with hlt | hge
    · have hle : k * s ≤ m * s := Nat.mul_le_mul_right s (by omega)
      rw [secsF_succ, List.take_append_of_le_length (by rw [secsF_length X base m s h]; omega), ih (by omega)]
    · rw [show k = m + 1 by omega]
/-- An area's bytes. -/
def areaF (X : Int → List UInt8) (n a : Nat) : List UInt8 := secsF X (2 + a * half n) (half n)
def ReadL (bs : List UInt8) (w : World) (e : Ending) (w' : World) : Prop := (∃ A c, e = .returned (.tuple #[.slice A bs.length c, .int .i64 0]) ∧ RowAt w' A (bs.map byteV) ∧ bs.length ≤ c) ∧ Below w.heap.size w w'
set_option maxRecDepth 100000 in
set_option maxHeartbeats 4000000 in
theorem lread_any (w : World) (l : LR) (q : DR) (hl : LogP l q w) (hq : DiskP q w) (hd : q.dead = false) (hn1 : 16 ≤ q.n) (ha : l.area ≤ 1) (hu : l.used ≤ half q.n * q.size) :
    Calls Tryz.prog 45 #[.pointer (some ⟨l.g, 0, none⟩)] w (ReadL ((areaF q.last q.n l.area).take l.used) w) := by
  obtain ⟨iS, hiS, hzS0, hzS1, hzS2⟩ := info_parts Tryz.infoU8
  have hn2 := hq.n2
  have hs2 := hq.s2
  have hs1 := hq.s1
  have hLg : Hid (LogP l q w) := Lib.hid hl
  have hD := Lib.hid hq
  have hdd := Lib.hid hd
  have hh := half_le q.n hn2
  have hm : half q.n * q.size ≤ 2047 * 4096 := Nat.mul_le_mul hh hs2
  have hgs := hl.lt
  clear hl hq hd
  go_enter Tryz.func45, Tryz.ntmps45
  go_wp2_with fail
  obtain ⟨wr, hwr⟩ : ∃ x, x = w := ⟨_, rfl⟩
  rw [← hwr] at hLg hD ⊢
  have hwr' := Lib.hid hwr
  clear hwr
  -- THE REGION THAT DRAWS ITS ORDER, BY ONE LEXICAL WALK OVER GENERIC VALUES (written by relgen.py)
  refine wp_region_tab ((fun _ v => v = .pointer (some ⟨l.g, 0, none⟩)) ::
    (fun _ v => v = shV q.n q.size) ::
    (fun _ v => v = .pointer (some ⟨l.g, 0, none⟩)) ::
    (fun _ v => v = .pointer (some ⟨l.g, 0, none⟩)) ::
    (fun _ v => v = .pointer (some ⟨l.g, 1, none⟩)) ::
    (fun _ v => v = .pointer (some ⟨l.g, 2, none⟩)) ::
    (fun _ v => v = .int .i64 l.area) ::
    (fun _ v => v = .int .i64 (2 + l.area * half q.n : Nat)) ::
    (fun _ v => v = .int .i64 (2 + l.area * half q.n : Nat)) :: [])
    (⟨[(0, none)], 0, []⟩ :: ⟨[(8, some 0)], 0, []⟩ :: ⟨[(0, none)], 0, []⟩ :: ⟨[(10, some 2)], 0, []⟩ :: ⟨[(11, some 3)], 0, []⟩ :: ⟨[(12, some 4)], 0, []⟩ :: ⟨[(13, some 5)], 0, []⟩ :: ⟨[(9, some 1), (14, some 6)], 0, []⟩ :: ⟨[(15, some 7)], 0, []⟩ :: [])
    (none :: none :: none :: none :: none :: some 8 :: none :: none :: some 0 :: some 1 :: some 2 :: some 3 :: some 4 :: some 5 :: some 6 :: some 7 :: [])
    (fun _ w' => Below wr.heap.size wr w') (fun _ w w' => Below w.heap.size w w') ?mixK2read2 ?okK2read2 ?tabK2read2 ?frK2read2 ?inK2read2 ?keptK2read2 ?startK2read2 ?eachK2read2 ?finK2read2
  case mixK2read2 => kernel_rfl
  case okK2read2 => kernel_rfl
  case tabK2read2 => kernel_rfl
  case frK2read2 => kernel_rfl
  case inK2read2 => rfl
  case keptK2read2 => exact ⟨fun _ _ _ _ _ _ _ h => h, fun _ _ _ _ _ _ _ h => h, fun _ _ _ _ _ _ _ h => h, fun _ _ _ _ _ _ _ h => h, fun _ _ _ _ _ _ _ h => h, fun _ _ _ _ _ _ _ h => h, fun _ _ _ _ _ _ _ h => h, fun _ _ _ _ _ _ _ h => h, fun _ _ _ _ _ _ _ h => h, trivial⟩
  case startK2read2 => exact (Below.refl _ _).drew
  case eachK2read2 =>
    refine ⟨?_, ?_, ?_, ?_, ?_, ?_, ?_, ?_, ?_, trivial⟩
    -- 0: slot 8 := move t0
    · intro w L f hC hLi hLd hLn hF
      obtain ⟨d0, _⟩ := hF
      have d0 : f 0 = .pointer (some ⟨l.g, 0, none⟩) := d0
      refine Step2.live rfl ?_
      exact relUpon_value (v := f 0) rfl (hC) (Below.refl _ _) d0
    -- 1: slot 9 := call { value (Operand.func 72), args := #[t8], argTypes := #[53] }
    · intro w L f hC hLi hLd hLn hF
      obtain ⟨d8, _⟩ := hF
      have d8 : f 8 = .pointer (some ⟨l.g, 0, none⟩) := d8
      refine Step2.live rfl ?_
      have ev : ∀ t, evalOf f (.tmp t) = f t := fun _ => rfl
      have ec : ∀ c, evalOf f (.const c) = c := fun _ => rfl
      have ef : ∀ g, evalOf f (.func g) = .func (.func g) #[] #[] := fun _ => rfl
      refine relUpon_call (f := 72) (args := #[.pointer (some ⟨l.g, 0, none⟩)]) (w := w) (by go_simp) (lshape_any w l q (hLg.out.below hC) (hD.out.below hC)) ?_
      rintro e w1 ⟨he, hB⟩
      exact ⟨_, he, hC.trans (hB.mono hC.size), hB, rfl⟩
    -- 2: slot 10 := move t0
    · intro w L f hC hLi hLd hLn hF
      obtain ⟨d0, _⟩ := hF
      have d0 : f 0 = .pointer (some ⟨l.g, 0, none⟩) := d0
      refine Step2.live rfl ?_
      exact relUpon_value (v := f 0) rfl (hC) (Below.refl _ _) d0
    -- 3: slot 11 := nilCheck t10
    · intro w L f hC hLi hLd hLn hF
      obtain ⟨d10, _⟩ := hF
      have d10 : f 10 = .pointer (some ⟨l.g, 0, none⟩) := d10
      refine Step2.live rfl ?_
      have ev : ∀ t, evalOf f (.tmp t) = f t := fun _ => rfl
      have ec : ∀ c, evalOf f (.const c) = c := fun _ => rfl
      have ef : ∀ g, evalOf f (.func g) = .func (.func g) #[] #[] := fun _ => rfl
      refine relUpon_value ?_ hC (Below.refl _ _) rfl
      go_simp
    -- 4: slot 12 := fieldAddr 104 t11 1
    · intro w L f hC hLi hLd hLn hF
      obtain ⟨d11, _⟩ := hF
      have d11 : f 11 = .pointer (some ⟨l.g, 0, none⟩) := d11
      refine Step2.live rfl ?_
      have ev : ∀ t, evalOf f (.tmp t) = f t := fun _ => rfl
      have ec : ∀ c, evalOf f (.const c) = c := fun _ => rfl
      have ef : ∀ g, evalOf f (.func g) = .func (.func g) #[] #[] := fun _ => rfl
      refine relUpon_value ?_ hC (Below.refl _ _) rfl
      go_simp
    -- 5: slot 13 := fieldAddr 100 t12 1
    · intro w L f hC hLi hLd hLn hF
      obtain ⟨d12, _⟩ := hF
      have d12 : f 12 = .pointer (some ⟨l.g, 1, none⟩) := d12
      refine Step2.live rfl ?_
      have ev : ∀ t, evalOf f (.tmp t) = f t := fun _ => rfl
      have ec : ∀ c, evalOf f (.const c) = c := fun _ => rfl
      have ef : ∀ g, evalOf f (.func g) = .func (.func g) #[] #[] := fun _ => rfl
      refine relUpon_value ?_ hC (Below.refl _ _) rfl
      go_simp
    -- 6: slot 14 := load 3 t13
    · intro w L f hC hLi hLd hLn hF
      obtain ⟨d13, _⟩ := hF
      have d13 : f 13 = .pointer (some ⟨l.g, 2, none⟩) := d13
      refine Step2.live rfl ?_
      have f0 := (hLg.out.below hC).c2
      have ev : ∀ t, evalOf f (.tmp t) = f t := fun _ => rfl
      have ec : ∀ c, evalOf f (.const c) = c := fun _ => rfl
      have ef : ∀ g, evalOf f (.func g) = .func (.func g) #[] #[] := fun _ => rfl
      refine relUpon_value ?_ hC (Below.refl _ _) rfl
      go_simp
    -- 7: slot 15 := call { value (Operand.func 73), args := #[t9, t14], argTypes := #[139, 3] }
    · intro w L f hC hLi hLd hLn hF
      obtain ⟨d9, d14, _⟩ := hF
      have d9 : f 9 = shV q.n q.size := d9
      have d14 : f 14 = .int .i64 l.area := d14
      refine Step2.live rfl ?_
      have ev : ∀ t, evalOf f (.tmp t) = f t := fun _ => rfl
      have ec : ∀ c, evalOf f (.const c) = c := fun _ => rfl
      have ef : ∀ g, evalOf f (.func g) = .func (.func g) #[] #[] := fun _ => rfl
      refine relUpon_call (f := 73) (args := #[shV q.n q.size, .int .i64 l.area]) (w := w) (by go_simp) (first_any w q.n q.size l.area hn1 hn2 ha) ?_
      rintro e w1 ⟨he, hB⟩
      exact ⟨_, he, hC.trans (hB.mono hC.size), hB, rfl⟩
    -- 8: slot 5 := assign t15
    · intro w L f hC hLi hLd hLn hF
      obtain ⟨d15, _⟩ := hF
      have d15 : f 15 = .int .i64 (2 + l.area * half q.n : Nat) := d15
      refine Step2.live rfl ?_
      exact relUpon_value (v := f 15) rfl (hC) (Below.refl _ _) d15
  intro x w' hC hV

  have e5 := hV 8 _ rfl rfl
  clear hV
  simp only [framed]
  rw [e5]
  clear e5
  have hC' := Lib.hid hC
  clear hC
  have hL1 : Hid (LogP l q w') := Lib.hid (hLg.out.below hC'.out)
  have hD1 : Hid (DiskP q w') := Lib.hid (hD.out.below hC'.out)
  have hBw : Hid (Below w.heap.size w w') := Lib.hid (by rw [← hwr'.out]; exact hC'.out)
  clear hLg hD hC' hwr'
  obtain ⟨w1, hw1⟩ : ∃ x, x = w' := ⟨_, rfl⟩
  rw [← hw1] at hL1 hD1 hBw ⊢
  clear hw1
  obtain ⟨base, hbase⟩ : ∃ b, b = 2 + l.area * half q.n := ⟨_, rfl⟩
  have hbl : Hid (base + half q.n ≤ q.n ∧ base ≤ 5000) := Lib.hid (by
    have h2 : l.area = 0 ∨ l.area = 1 := by omega
    unfold half at *
    rcases h2 with e | e <;> rw [e] at hbase <;> omega)
  rw [← hbase]
  have hbase' := Lib.hid hbase
  clear hbase
  go_wp2_with fail
  go_loopw [4, 5] (fun v iv wr => ∃ k : Nat, k ≤ half q.n ∧ iv = .int .i64 ((base + k : Nat) : Int) ∧ Hid (wr.ownsRow w1.heap.size 5 1 v (k * q.size) ((secsF q.last base k).map byteV)) ∧ Hid (Below w1.heap.size w1 wr)) (fun _ iv _ => base + half q.n - (intOf iv).toNat)
  case atStart => exact ⟨0, by omega, rfl, Lib.hid (by rw [Nat.zero_mul]; exact World.ownsRow_nil _ _ _ _), Lib.hid (Below.refl _ _)⟩
  obtain ⟨k, hk, rfl, hO, hB⟩ := hrel
  have hLr := Lib.hid (hL1.out.below hB.out)
  have hDr := Lib.hid (hD1.out.below hB.out)
  have hBr := Lib.hid (hBw.out.trans (hB.out.mono hBw.out.size))
  have c0 := hLr.out.c0
  have c3 := hLr.out.c3
  have hks : k * q.size ≤ 2047 * 4096 := Nat.mul_le_mul (by omega) hs2
  have hlen : Hid (∀ i, (q.last i).length = q.size) := Lib.hid hD1.out.last_len
  have hsl : Hid (∀ i, (secsF q.last base i).length = i * q.size) := Lib.hid (fun i => secsF_length _ _ _ _ hlen.out)
  obtain ⟨Av, cv, hv, hrow, _, hcv⟩ := own_row hO.out
  subst hv
  have hrow' : Hid (Row wr wr.heap.size Av ((secsF q.last base k).map byteV)) := Lib.hid hrow
  have hcv' := Lib.hid hcv
  clear hrow hcv
  by_cases hlt : k * q.size < l.used
  · have hkh : k < half q.n := by
      rcases Nat.lt_or_ge k (half q.n) with h | h
      · exact h
      · have := Nat.mul_le_mul_right q.size h
        omega
    have hrd := read_ok wr q hDr.out hdd.out ((base + k : Nat) : Int) (by have := hbl.out; omega)
    obtain ⟨K, hK⟩ : ∃ K, K = k * q.size := ⟨_, rfl⟩
    rw [← hK] at hlt hks hO ⊢
    have hK' := Lib.hid hK
    clear hK
    obtain ⟨x, hx⟩ : ∃ x, x = base + k := ⟨_, rfl⟩
    have hxl : x ≤ 10000 := by have := hbl.out; omega
    rw [← hx] at hrd ⊢
    have hx' := Lib.hid hx
    clear hx
    go_wp2_with fail
    refine hrd.mono ?_
    clear hrd
    rintro e w2 ⟨⟨gb, cb, rfl, hbuf⟩, hb2⟩
    have hO2 := Lib.hid (own_below hO.out hb2)
    have hs2' := Lib.hid (Nat.le_trans hB.out.size hb2.size)
    have hB2 := Lib.hid (hB.out.trans (hb2.mono hB.out.size))
    have hrow2 := Lib.hid hbuf.rowAt.row
    have hxlen : Hid (((q.last (x : Int)).map byteV).length = q.size) := Lib.hid (by rw [List.length_map]; exact hlen.out _)
    clear hbuf hb2
    go_wp2_with
      (with_reducible refine at_slot 40 ?_
       go_loud (refine wpList_append_row _ rfl (.tmp 38) (.tmp 39) 37 rfl w1.heap.size 5 iS (.int .u8 0) 1 Tryz.underlying37 hiS hzS0 hzS1 hzS2 rfl (.slice Av K cv) K _ rfl hO2.out _ (some ⟨gb, 0, none⟩) q.size cb ((q.last (x : Int)).map byteV) rfl hxlen.out hrow2.out byte_one (by unfold maxLen; omega) (by omega) hs2'.out ?_)
       intro v5 w5 ho5 hg5 _
       have hB5 : Hid (Below w1.heap.size w1 w5) := Lib.hid (hB2.out.trans ((Writes.of_grown hg5 (M := [(Value.slice Av K cv).ownBlock]) (by simp)).below hs2'.out (fun j hj => own_ge hO2.out (List.mem_singleton.1 hj).symm)))
       have hO5 := Lib.hid ho5
       clear ho5 hg5)
    go_roundw
    case rel =>
      refine ⟨k + 1, by omega, ?_, Lib.hid ?_, hB5⟩
      · rw [hx'.out]; go_num
      · have := hO5.out
        rw [hK'.out, hx'.out, ← List.map_append, ← secsF_succ, ← Nat.succ_mul] at this
        exact this
    case measure => simp [intOf]; have := hx'.out; omega
  · obtain ⟨bs, hbs⟩ : ∃ bs, bs = (areaF q.last q.n l.area).take l.used := ⟨_, rfl⟩
    have hbe : Hid (bs = (secsF q.last base k).take l.used) := Lib.hid (by
      rw [hbs]
      unfold areaF
      rw [← hbase'.out]
      exact secsF_prefix _ _ _ _ _ _ hlen.out hk (by omega))
    have hblen : Hid (bs.length = l.used) := Lib.hid (by rw [hbe.out, List.length_take, hsl.out]; omega)
    have hbrow : Hid (RowAt wr Av (bs.map byteV)) := Lib.hid (by rw [hbe.out, List.map_take]; exact (hrow'.out.take l.used).rowAt)
    have hcu : (l.used : Int) ≤ (cv : Int) := by have := hcv'.out; omega
    obtain ⟨K, hK⟩ : ∃ K, K = k * q.size := ⟨_, rfl⟩
    rw [← hK] at hlt hks ⊢
    clear hK hO hrow' hcv' hbe
    have hbs' := Lib.hid hbs
    clear hbs
    go_wp2_with fail
    go_ret2
    rw [← hbs'.out]
    refine ⟨⟨Av, cv, ?_, hbrow.out, by rw [hblen.out]; omega⟩, hBr.out⟩
    rw [hblen.out]
    rfl
end Go.Proofs.YtelglbblgkhcmaaGreat
namespace Go.Proofs.YtelglbblgkhcmaaGreat
open Go.RowKit Go.Deep

end Go.Proofs.YtelglbblgkhcmaaGreat
namespace Go.Proofs.YtelglbblgkhcmaaGreat
open Go.RowKit Go.Deep

structure AD where
  n : Nat
  size : Nat
  safe : Int → List UInt8
  wr : Int → Option (List UInt8)
  dead : Bool
  cut : Bool
  left : Nat
def AD.last (d : AD) (k : Int) : List UInt8 := match d.wr k with | some l => l | none => d.safe k
def AD.powered (d : AD) : AD := if d.cut = true then (if d.left = 0 then { d with cut := false, dead := true } else { d with left := d.left - 1 }) else d
def AD.wrote (d : AD) (i : Int) (l : List UInt8) : AD := { d with wr := fun j => if j = i then some l else d.wr j }
def AD.settled (d : AD) : AD := { d with safe := d.last, wr := fun _ => none }
/-- A write of a sector of the right size: what the disk is then, and the error's number. -/
def AD.write (d : AD) (i : Int) (l : List UInt8) : AD × Nat :=
  if d.dead = true then (d, 32) else if d.powered.dead = true then (d.powered, 32) else (d.powered.wrote i l, 0)
def AD.flush (d : AD) : AD × Nat :=
  if d.dead = true then (d, 32) else if d.powered.dead = true then (d.powered, 32) else (d.powered.settled, 0)
def DR.abs (q : DR) : AD := ⟨q.n, q.size, q.safe, fun k => (q.wr k).map (·.l), q.dead, q.cut, q.left⟩
theorem abs_last (q : DR) (k : Int) : q.abs.last k = q.last k := by
  unfold AD.last DR.last DR.abs
  simp only
  cases h : q.wr k <;> simp
theorem abs_powered (q : DR) : q.powered.abs = q.abs.powered := by
  unfold DR.powered AD.powered DR.abs
  simp only
  split
  · split <;> rfl
  · rfl
theorem abs_wrote (q : DR) (i : Int) (p : Pay) : (q.wrote i p).abs = q.abs.wrote i p.l := by
  unfold DR.wrote AD.wrote DR.abs
  simp only [AD.mk.injEq, true_and, and_true]
  refine ⟨rfl, ?_⟩
  funext k
  by_cases e : k = i <;> simp [e]
theorem abs_settled (q : DR) : q.settled.abs = q.abs.settled := by
  have h : q.settled.safe = q.abs.last := by
    funext k
    rw [abs_last]
    unfold DR.settled DR.safe DR.last
    simp only
    cases q.wr k <;> rfl
  unfold AD.settled
  rw [← h]
  rfl
/-- What a call leaves of a disk. -/
def Left (q : DR) (w : World) (r : AD × Nat) (e : Ending) (w' : World) : Prop := e = .returned (.int .i64 r.2) ∧ ∃ q', DStep q w q' w' ∧ q'.abs = r.1
theorem write_abs (w : World) (q : DR) (h : DiskP q w) (i : Int) (hi : 0 ≤ i ∧ i < q.n) (A : Option Addr) (n c : Nat) (l : List UInt8) (hn : l.length = n) (hs : n = q.size) (hb : RowAt w A (l.map byteV)) :
    Calls Tryz.prog 132 #[.pointer (some ⟨q.g, 0, none⟩), .int .i64 i, .slice A n c] w (Left q w (q.abs.write i l)) := by
  have h2 := h.n2
  have h3 := h.s2
  refine (write_any w q h i (by omega) A n c l hn (by omega) hb).mono fun e w' hW => ?_
  unfold WriteE at hW
  have hp : q.abs.powered.dead = q.powered.dead := by rw [← abs_powered]; rfl
  have hd : q.abs.dead = q.dead := rfl
  unfold Left AD.write
  rw [hp, hd]
  by_cases e1 : q.dead = true
  · rw [if_pos e1] at hW ⊢
    obtain ⟨rfl, rfl⟩ := hW
    exact ⟨rfl, q, DStep.refl h, rfl⟩
  rw [if_neg e1] at hW ⊢
  rw [if_neg (by omega), if_neg (by omega)] at hW
  by_cases e2 : q.powered.dead = true
  · rw [if_pos e2] at hW ⊢
    obtain ⟨rfl, hst⟩ := hW
    exact ⟨rfl, _, hst, abs_powered q⟩
  rw [if_neg e2] at hW ⊢
  obtain ⟨rfl, p, hp, hst⟩ := hW
  exact ⟨rfl, _, hst, by rw [abs_wrote, abs_powered, hp]⟩
theorem flush_abs (w : World) (q : DR) (h : DiskP q w) : Calls Tryz.prog 43 #[.pointer (some ⟨q.g, 0, none⟩)] w (Left q w q.abs.flush) := by
  refine (flush_any w q h).mono fun e w' hW => ?_
  unfold FlushE at hW
  have hp : q.abs.powered.dead = q.powered.dead := by rw [← abs_powered]; rfl
  have hd : q.abs.dead = q.dead := rfl
  unfold Left AD.flush
  rw [hp, hd]
  by_cases e1 : q.dead = true
  · rw [if_pos e1] at hW ⊢
    obtain ⟨rfl, rfl⟩ := hW
    exact ⟨rfl, q, DStep.refl h, rfl⟩
  rw [if_neg e1] at hW ⊢
  by_cases e2 : q.powered.dead = true
  · rw [if_pos e2] at hW ⊢
    obtain ⟨rfl, hst⟩ := hW
    exact ⟨rfl, _, hst, abs_powered q⟩
  rw [if_neg e2] at hW ⊢
  obtain ⟨rfl, hst⟩ := hW
  exact ⟨rfl, _, hst, by rw [abs_settled, abs_powered]⟩
end Go.Proofs.YtelglbblgkhcmaaGreat
namespace Go.Proofs.YtelglbblgkhcmaaGreat
open Go.RowKit Go.Deep

section
variable {l : LR} {q q' : DR} {w w' : World}
theorem LogP.apart (hl : LogP l q w) (hq : DiskP q w) : l.g ≠ q.g ∧ l.g ≠ q.md ∧ l.g ≠ q.mw := by
  have hh : w.heap[l.g]? = some (.cells (l.cells q.g) 104 (0, 0)) := hl
  refine ⟨?_, ?_, ?_⟩
  · intro e
    have hg : w.heap[q.g]? = some (.cells q.cells 71 (0, 0)) := hq.hold
    rw [← e, hh] at hg
    injection hg with hg
    injection hg with _ hg
    exact absurd hg (by decide)
  · intro e
    obtain ⟨⟨n, D, _, ⟨es, clock, hm, _⟩, _⟩, _⟩ := hq.md
    rw [← e, hh] at hm
    cases hm
  · intro e
    obtain ⟨⟨n, D, _, ⟨es, clock, hm, _⟩, _⟩, _⟩ := hq.mw
    rw [← e, hh] at hm
    cases hm
/-- Bytes do not lie in a log. -/
theorem LogP.byte (hl : LogP l q w) {A : Option Addr} {bs : List UInt8} (hb : RowAt w A (bs.map byteV)) (hne : bs ≠ []) : blk A ≠ some l.g := by
  intro e
  obtain ⟨b, off, rfl, hc⟩ := hb (by simpa using hne)
  simp [blk] at e
  subst e
  rcases bs with _ | ⟨y, r⟩
  · exact absurd rfl hne
  have h0 := hc 0 (byteV y) rfl
  have hh : Holds w l.g 104 (l.cells q.g) := hl
  rw [hh.cell] at h0
  match off, h0 with
  | 0, h0 => simp [LR.cells, byteV] at h0
  | 1, h0 => simp [LR.cells, byteV] at h0
  | 2, h0 => simp [LR.cells, byteV] at h0
  | 3, h0 => simp [LR.cells, byteV] at h0
  | 4, h0 => simp [LR.cells, byteV] at h0
  | 5, h0 => simp [LR.cells, byteV] at h0
  | k + 6, h0 => simp [LR.cells] at h0
theorem LogP.apartF (hl : LogP l q w) (hq : DiskP q w) : ¬ q.F l.g := by
  obtain ⟨h1, h2, h3⟩ := hl.apart hq
  rintro (h | h | h | ⟨k, p, hp, hx⟩)
  · exact h1 h
  · exact h2 h
  · exact h3 h
  · obtain ⟨a1, a2, _⟩ := hq.pay k p hp
    exact hl.byte a1 (by intro e; rw [e] at a2; have := hq.s1; simp at a2; omega) hx
theorem LogP.dstep (hl : LogP l q w) (hq : DiskP q w) (hst : DStep q w q' w') : LogP l q' w' := by
  obtain ⟨h1, h2, h3⟩ := hl.apart hq
  have := hst.wrt.holds (show Holds w l.g 104 (l.cells q.g) from hl) (by simp; exact ⟨h1, h2, h3⟩)
  unfold LogP
  rw [hst.g]
  exact this
/-- A store into the log leaves the disk. -/
theorem DiskP.logged (hq : DiskP q w) (hl : LogP l q w) (hw : Writes [some l.g] w w') : DiskP q w' :=
  hq.loc fun x hx => hw.block x (hq.lt x hx) (by simp; intro e; subst e; exact hl.apartF hq hx)
end
end Go.Proofs.YtelglbblgkhcmaaGreat
