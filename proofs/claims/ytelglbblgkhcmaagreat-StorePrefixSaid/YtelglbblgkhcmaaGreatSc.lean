/-
  augurlaw5: key, value, pairs, light; what its arguments open to.
-/
import Derived.Test.YtelglbblgkhcmaaGreatBuf
import Derived.Test.YtelglbblgkhcmaaGreatSa
import Derived.Test.YtelglbblgkhcmaaGreatWd
import Derived.Test.YtelglbblgkhcmaaGreatSb
import Derived.Test.YtelglbblgkhcmaaGreatOpen
namespace Go.Proofs.YtelglbblgkhcmaaGreat
open Go.RowKit Go.Deep

def byteO (x : Nat) : UInt8 := UInt8.ofNat (x % 256)
def valL (i m : Nat) : List UInt8 := (List.range m).map fun j => byteO (13 * i + j)
theorem valL_length (i m : Nat) : (valL i m).length = m := by simp [valL]
theorem valL_succ (i m : Nat) : valL i (m + 1) = valL i m ++ [byteO (13 * i + m)] := by simp [valL, List.range_succ]
def valS (i m : Nat) : ByteArray := strV (valL i m)
theorem valS_size (i m : Nat) : (valS i m).size = m := by
  show (valL i m).toArray.size = m
  simp [valL_length]
def keyL : Nat → List UInt8
  | 0 => [97]
  | 1 => [97, 47, 98]
  | 2 => []
  | 3 => [98]
  | 4 => [97, 47]
  | 5 => [122, 122]
  | _ => [97, 47, 99]
def keyF (k : Nat) : ByteArray := strV (keyL (k % 7))
theorem keyF_size (k : Nat) : (keyF k).size ≤ 3 := by
  have h : ∀ j, j < 7 → (keyL j).toArray.size ≤ 3 := by decide
  exact h _ (Nat.mod_lt _ (by omega))
set_option maxRecDepth 100000 in
theorem key_any (w : World) (k : Nat) (hk : k < 256) :
    Calls Tryz.prog 15 #[.int .u8 k] w fun e w' => e = .returned (.string (keyF k)) ∧ Below w.heap.size w w' := by
  have hc : k % 7 = 0 ∨ k % 7 = 1 ∨ k % 7 = 2 ∨ k % 7 = 3 ∨ k % 7 = 4 ∨ k % 7 = 5 ∨ k % 7 = 6 := by omega
  have h0 : (0 : Int) ≤ (k : Int) := by omega
  unfold keyF
  have hres : ∀ b : ByteArray, Hid (b = strV (keyL (k % 7))) → True := fun _ _ => trivial
  clear hres
  rcases hc with h | h | h | h | h | h | h
  all_goals
    rw [h]
    have h2 : (k : Int).tmod 7 = ((k % 7 : Nat) : Int) := by rw [Int.tmod_eq_emod_of_nonneg (by omega)]; omega
    rw [h] at h2
    clear h
    go_enter Tryz.func15, Tryz.ntmps15
    go_wp2_with fail
    go_ret
    exact ⟨rfl, below_new w _⟩
set_option maxRecDepth 100000 in
set_option maxHeartbeats 4000000 in
theorem value_any (w : World) (i n : Nat) (hi : i ≤ 100000) (hn : n ≤ 255) :
    Calls Tryz.prog 16 #[.int .i64 i, .int .i64 n] w fun e w' => e = .returned (.string (valS i n)) ∧ Below w.heap.size w w' := by
  have hmk := run_make_row' (P := Tryz.prog) 37 5 (.int .u8 0) 1 Tryz.underlying37 Tryz.infoU8 rfl .i64 .i64 n (by omega) (by omega)
  rw [made_bytes] at hmk
  obtain ⟨zs, hzs⟩ : ∃ zs, zs = (List.replicate n (0 : UInt8)).map byteV := ⟨_, rfl⟩
  rw [← hzs] at hmk
  have hb0 := below_new w (.cells zs.toArray 5)
  have hz0 := Buf.made w (zerosB n) (by simp [zerosB]; omega)
  have e0 : ((zerosB n).map byteV).toArray = zs.toArray := by rw [hzs]; rfl
  have e1 : (zerosB n).length = n := by simp [zerosB]
  rw [e0, e1] at hz0
  have hB0 := Lib.hid hb0
  have hZ0 := Lib.hid hz0
  clear hb0 hz0 hzs e0 e1
  go_enter Tryz.func16, Tryz.ntmps16
  go_wp2_with fail
  obtain ⟨g, hg⟩ : ∃ g, g = w.heap.size := ⟨_, rfl⟩
  rw [← hg]
  obtain ⟨w1, hw1⟩ : ∃ x, x = w.alloc (.cells zs.toArray 5) := ⟨_, rfl⟩
  have hZ1 : Hid (Buf w1 w.heap.size g n (zerosB n)) := Lib.hid (by rw [hw1, hg]; exact hZ0.out)
  have hB1 : Hid (Below w.heap.size w w1) := Lib.hid (by rw [hw1]; exact hB0.out)
  rw [← hw1]
  have hg' := Lib.hid hg
  clear hw1 hg hZ0 hB0 hmk
  go_loopw [6] (fun jv wr => ∃ j : Nat, j ≤ n ∧ jv = .int .i64 j ∧ Hid (Buf wr w.heap.size g n (valL i j ++ zerosB (n - j))) ∧ Hid (Below w.heap.size w wr)) (fun jv _ => n - (intOf jv).toNat)
  case atStart => exact ⟨0, by omega, rfl, Lib.hid (by simpa [valL] using hZ1.out), hB1⟩
  obtain ⟨j, hj, rfl, hBf, hBx⟩ := hrel
  by_cases hjn : j < n
  · have hji : (j : Int) < (n : Int) := by omega
    have hll : Hid ((valL i j ++ zerosB (n - j)).length = n) := Lib.hid (by rw [List.length_append, valL_length]; simp [zerosB]; omega)
    have hc := hBf.out.cell (i := j) (by rw [hll.out]; exact hjn)
    have hz := hBf.out.frozen j
    have hw31 : IntKind.i64.wrap (13 * (i : Int)) = 13 * (i : Int) := IntWalk.i64_in _ (by omega)
    have hws : IntKind.i64.wrap (13 * (i : Int) + (j : Int)) = 13 * (i : Int) + (j : Int) := IntWalk.i64_in _ (by omega)
    have hjw : IntKind.i64.wrap ((j : Int) + 1) = ((j + 1 : Nat) : Int) := by rw [IntWalk.i64_in _ (by omega)]; omega
    have hst := hBf.out.store j (byteO (13 * i + j))
    have hset : (valL i j ++ zerosB (n - j)).set j (byteO (13 * i + j)) = valL i (j + 1) ++ zerosB (n - (j + 1)) := by
      have e1 : n - j = (n - (j + 1)) + 1 := by omega
      rw [valL_succ, List.append_assoc, List.set_append_right _ _ (by rw [valL_length]; omega), valL_length, Nat.sub_self, e1]
      congr 1
    rw [hset] at hst
    have hby : byteV (byteO (13 * i + j)) = .int .u8 ((13 * (i : Int) + (j : Int)) % 256) := by
      unfold byteV byteO
      rw [UInt8.toNat_ofNat_of_lt' (show (13 * i + j) % 256 < 256 by omega)]
      simp
    rw [hby] at hst
    have hst' := Lib.hid hst
    have hBs := Lib.hid (hBx.out.trans ((Writes.store wr (M := [some g]) (p := ⟨g, j, none⟩) (by simp) (.int .u8 ((13 * (i : Int) + (j : Int)) % 256))).below hBx.out.size (fun q hq => by simp at hq; have := hg'.out; omega)))
    clear hst hset hby
    go_wp2_with fail
    refine ⟨⟨j + 1, by omega, by simp, hst', hBs⟩, by simp [intOf]; omega⟩
  · obtain rfl : n = j := by omega
    have hji : ¬ (n : Int) < (n : Int) := by omega
    have h1 := hBf.out
    rw [Nat.sub_self, show zerosB 0 = [] from rfl, List.append_nil] at h1
    have hkv := run_text (P := Tryz.prog) wr 37 5 Tryz.underlying37 Tryz.underlying5 (some ⟨g, 0, none⟩) n n (valL i n) (valL_length i n) h1.rowAt.row 9 Tryz.underlying9
    clear h1 hBf
    go_wp2_with fail
    go_ret
    exact ⟨rfl, hBx.out⟩
end Go.Proofs.YtelglbblgkhcmaaGreat
namespace Go.Proofs.YtelglbblgkhcmaaGreat
open Go.RowKit Go.Deep

/-- A region that makes a variable (m) and stores it (n): the ghost is its block. -/
structure CMk (m n : Nat) (w0 : World) (T : TypeId) (Z V : Array Value) (L : Nat → Bool) (W : World × Option Nat) : Prop where
  bel : Below w0.heap.size w0 W.1
  done : L m = true → ∃ g, W.2 = some g ∧ w0.heap.size ≤ g ∧ g < W.1.heap.size ∧ (L n = false → Holds W.1 g T Z) ∧ (L n = true → Holds W.1 g T V)
  ord : L n = true → L m = true
def GMk (m i : Nat) (W W' : World × Option Nat) : Prop := i ≠ m → W'.2 = W.2
section
variable {m n i : Nat} {w0 w w' : World} {T : TypeId} {Z V : Array Value} {L : Nat → Bool} {γ : Option Nat}
theorem CMk.start (hb : Below w0.heap.size w0 w) (h1 : L m = false) (h2 : L n = false) : CMk m n w0 T Z V L (w, γ) := ⟨hb, fun e => by simp [h1] at e, fun e => by simp [h2] at e⟩
theorem CMk.other (h : CMk m n w0 T Z V L (w, γ)) (hm : i ≠ m) (hn : i ≠ n) (hb : Below w.heap.size w w') : CMk m n w0 T Z V (fun k => k == i || L k) (w', γ) := by
  have e1 : (m == i) = false := by simpa using hm.symm
  have e2 : (n == i) = false := by simpa using hn.symm
  refine ⟨h.bel.trans (hb.mono h.bel.size), fun e => ?_, fun e => ?_⟩
  · simp only [e1, e2, Bool.false_or] at e ⊢
    obtain ⟨g, h1, h2, h3, h4, h5⟩ := h.done e
    exact ⟨g, h1, h2, Nat.lt_of_lt_of_le h3 hb.size, fun e => (h4 e).below hb h3, fun e => (h5 e).below hb h3⟩
  · simp only [e1, e2, Bool.false_or] at e ⊢
    exact h.ord e
theorem CMk.alloc (h : CMk m n w0 T Z V L (w, γ)) (hL : L m = false) (hmn : m ≠ n) : CMk m n w0 T Z V (fun k => k == m || L k) (w.alloc (.cells Z T), some w.heap.size) := by
  have hb := below_new w (.cells Z T)
  have hn : L n = false := by
    cases e : L n with
    | false => rfl
    | true => rw [h.ord e] at hL; cases hL
  refine ⟨h.bel.trans (hb.mono h.bel.size), fun e => ⟨_, rfl, h.bel.size, by simp, fun _ => Holds.new w _ _, fun e => ?_⟩, fun e => by simp⟩
  simp [hn] at e
  exact absurd e.symm hmn
theorem CMk.zero (h : CMk m n w0 T Z V L (w, γ)) (hn : L n = false) (hm : L m = true) {g : Nat} (hg : γ = some g) : Holds w g T Z := by
  obtain ⟨g', h1, _, _, h4, _⟩ := h.done hm
  obtain rfl : g = g' := Option.some.inj (hg.symm.trans h1)
  exact h4 hn
theorem CMk.wrote (h : CMk m n w0 T Z V L (w, γ)) (hm : L m = true) {g : Nat} (hg : γ = some g) (hW : Writes [some g] w w') (hH : Holds w' g T V) : CMk m n w0 T Z V (fun k => k == n || L k) (w', γ) := by
  obtain ⟨g', h1, h2, h3, _, _⟩ := h.done hm
  obtain rfl : g = g' := Option.some.inj (hg.symm.trans h1)
  exact ⟨h.bel.trans (hW.below h.bel.size (fun k hk => by simp at hk; omega)), fun _ => ⟨g, hg, h2, Nat.lt_of_lt_of_le h3 hW.size, fun e => by simp at e, fun _ => hH⟩, fun _ => by simp [hm]⟩
theorem CMk.stored3 {a b c x y z : Value} (h : CMk m n w0 T #[a, b, c] #[x, y, z] L (w, γ)) (hn : L n = false) (hm : L m = true) {g : Nat} (hg : γ = some g) :
    CMk m n w0 T #[a, b, c] #[x, y, z] (fun k => k == n || L k) (((w.setCell ⟨g, 0, none⟩ x).setCell ⟨g, 1, none⟩ y).setCell ⟨g, 2, none⟩ z, γ) :=
  h.wrote hm hg ((Writes.store w (p := ⟨g, 0, none⟩) (by simp) _).trans ((Writes.store _ (p := ⟨g, 1, none⟩) (by simp) _).trans (Writes.store _ (p := ⟨g, 2, none⟩) (by simp) _))) ((((h.zero hn hm hg).store 0 x).store 1 y).store 2 z)
end
/-- A pair of the law. -/
structure LP where
  K : UInt8
  N : UInt8
  gone : Bool
def LP.cells (x : LP) : List Value := [.int .u8 x.K.toNat, .int .u8 x.N.toNat, .bool x.gone]
def prF (i k : Nat) (x : LP) : PairR := ⟨keyF x.K.toNat, valS (i + k) x.N.toNat, x.gone⟩
def pairsF (i : Nat) (l : List LP) : List PairR := l.mapIdx (prF i)
theorem pairsF_length (i : Nat) (l : List LP) : (pairsF i l).length = l.length := by simp [pairsF]
theorem pairsF_take (i : Nat) (l : List LP) {k : Nat} (h : k < l.length) : (pairsF i l).take (k + 1) = (pairsF i l).take k ++ [prF i k l[k]] := by
  unfold pairsF
  rw [List.take_add_one, List.getElem?_eq_getElem (by simpa using h)]
  simp
theorem prF_sm (i k : Nat) (x : LP) : (prF i k x).sm := by
  have h1 := keyF_size x.K.toNat
  have h2 := valS_size (i + k) x.N.toNat
  have h3 := x.N.toNat_lt
  exact ⟨by show (keyF x.K.toNat).size ≤ _; omega, by show (valS (i + k) x.N.toNat).size ≤ _; omega⟩
/-- Block m is a map from strings to strings. -/
def SMapT (w : World) (m N : Nat) (M : ByteArray → Option ByteArray) : Prop := SMap w m N (fun k => (M k).map Value.string)
theorem SMapT.put {w : World} {m N : Nat} {M : ByteArray → Option ByteArray} (h : SMapT w m N M) (p : PairR) (hp : p.sm) (hN : N ≤ 1000000) (hg : p.gone = false) :
    ∃ w', (Instr.mapUpdate 30 (.map (some m)) (.string p.k) (.string p.v)).run Tryz.prog w = .ok () w' ∧ SMapT w' m (N + 1) (chg M p) ∧ Writes [some m] w w' := by
  obtain ⟨w', h1, h2, h3, h4⟩ := SMap.store h Tryz.underlying30 (k := p.k) (by have := hp.1; unfold maxLen; omega) hN (.string p.v)
  refine ⟨w', h1, ?_, Writes.of_grown h3 (by simp)⟩
  have e : (fun j => if j = p.k then some (Value.string p.v) else (M j).map Value.string) = fun j => (chg M p j).map Value.string := by
    funext j
    unfold chg
    by_cases e : j = p.k
    · rw [if_pos e, if_pos e, hg]; rfl
    · rw [if_neg e, if_neg e]
  rw [e] at h2
  exact h2
theorem SMapT.del {w : World} {m N : Nat} {M : ByteArray → Option ByteArray} (h : SMapT w m N M) (p : PairR) (hp : p.sm) (hg : p.gone = true) :
    ∃ w', (∀ ty, (Builtin.delete_ #[30, 9] ty #[.map (some m), .string p.k]).run Tryz.prog w = .ok (.tuple #[]) w') ∧ SMapT w' m (N + 1) (chg M p) ∧ Writes [some m] w w' := by
  obtain ⟨w', h1, h2, h3, h4⟩ := SMap.drop h Tryz.underlying30 (k := p.k) (by have := hp.1; unfold maxLen; omega)
  refine ⟨w', h1, ?_, Writes.of_grown h3 (by simp)⟩
  have e : (fun j => if j = p.k then none else (M j).map Value.string) = fun j => (chg M p j).map Value.string := by
    funext j
    unfold chg
    by_cases e : j = p.k
    · rw [if_pos e, if_pos e, hg]; rfl
    · rw [if_neg e, if_neg e]
  rw [e] at h2
  exact h2.more (by omega)
theorem Tryz.strZs : ∀ w, (zeroValue 9).run Tryz.prog w = .ok (.string ⟨#[]⟩) w := fun w => by kernel_rfl
theorem SMapT.look {w : World} {m N : Nat} {M : ByteArray → Option ByteArray} (h : SMapT w m N M) {k : ByteArray} (hk : k.size ≤ 100000000) :
    (Instr.lookup 30 (.map (some m)) (.string k) true).run Tryz.prog w = .ok (.tuple #[.string ((M k).getD ⟨#[]⟩), .bool (M k).isSome]) w := by
  obtain ⟨h1, h2⟩ := SMap.look h Tryz.underlying30 (Tryz.strZs w) (k := k) (by unfold maxLen; omega)
  have e1 : ((M k).map Value.string).getD (.string ⟨#[]⟩) = .string ((M k).getD ⟨#[]⟩) := by cases M k <;> rfl
  have e2 : ((M k).map Value.string).isSome = (M k).isSome := by cases M k <;> rfl
  simp only [e1, e2] at h1
  exact h1
theorem Tryz.rPair : (Tryz.prog.info? 41).map (fun i => (i.zero, i.size, i.bytes)) = some (some (.agg #[.string ⟨#[]⟩, .string ⟨#[]⟩, .bool false]), 3, 40) := by kernel_rfl
theorem ownP_ge {w : World} {base : Nat} {e : TypeId} {v : Value} {n s : Nat} {xs : List Value} (h : w.ownsRow base e s v n xs) {k : Nat} (hk : v.ownBlock = some k) : base ≤ k := (h.lt k hk).1
set_option maxRecDepth 100000 in
set_option maxHeartbeats 4000000 in
theorem pairs_any (w : World) (i : Nat) (hi : i ≤ 1000) (A : Option Addr) (n c : Nat) (l : List LP) (hl : l.length = n) (hn : n ≤ 1000) (hr : Row w w.heap.size A (l.flatMap LP.cells)) (mm N : Nat) (M : ByteArray → Option ByteArray) (hm : SMapT w mm N M) (hN : N ≤ 100000) :
    Calls Tryz.prog 13 #[.int .i64 i, .slice A n c, .map (some mm)] w fun e w' => (∃ v, e = .returned v ∧ w'.ownsRow w.heap.size 41 3 v n ((pairsF i l).flatMap PairR.cells)) ∧ SMapT w' mm (N + n) ((pairsF i l).foldl chg M) ∧ Writes [some mm] w w' := by
  obtain ⟨iP, hiP, hzP0, hzP1, hzP2⟩ := info_parts Tryz.rPair
  have hml := SMap.lt hm
  replace hr := Lib.hid hr
  replace hl := Lib.hid hl
  replace hm := Lib.hid hm
  have hm0 := hm
  go_enter Tryz.func13, Tryz.ntmps13
  go_wp2_with fail
  go_loopw [7, 8] (fun v kv wr => ∃ k : Nat, k ≤ n ∧ kv = .int .i64 k ∧ Hid (wr.ownsRow w.heap.size 41 3 v k (((pairsF i l).take k).flatMap PairR.cells)) ∧ Hid (SMapT wr mm (N + k) (((pairsF i l).take k).foldl chg M)) ∧ Hid (Writes [some mm] w wr)) (fun _ kv _ => n - (intOf kv).toNat)
  case atStart => exact ⟨0, by omega, rfl, Lib.hid (World.ownsRow_nil _ _ _ _), hm, Lib.hid (Writes.refl _ _)⟩
  clear hm
  obtain ⟨k, hk, rfl, hO, hm, hM⟩ := hrel
  rename World => wo
  by_cases hkn : k < n
  · have hkl : k < l.length := by rw [hl.out]; exact hkn
    have hki : (k : Int) < (n : Int) := by omega
    obtain ⟨b, off, rfl, hbl, hne, hcell⟩ := Row.elem (C := 3) hr.out (fun _ _ => rfl) (by omega) hkl
    have hbm : b ≠ mm := SMap.noblk hm0.out (hcell 0 _ rfl)
    have hkeep : ∀ o, wo.cell? ⟨b, o, none⟩ = w.cell? ⟨b, o, none⟩ := fun o => World.cell?_of_block (hM.out.block b hbl (by simp; exact hbm))
    have hbo := Nat.lt_of_lt_of_le hbl hM.out.size
    have q0 : Hid (b < wo.heap.size ∧ wo.cell? ⟨b, off + k * 3, none⟩ = some (.int .u8 l[k].K.toNat)) := Lib.hid ⟨hbo, (hkeep _).trans (hcell 0 _ rfl)⟩
    have q1 : Hid (b < wo.heap.size ∧ wo.cell? ⟨b, off + k * 3 + 1, none⟩ = some (.int .u8 l[k].N.toNat)) := Lib.hid ⟨hbo, (hkeep _).trans (hcell 1 _ rfl)⟩
    have q2 : Hid (b < wo.heap.size ∧ wo.cell? ⟨b, off + k * 3 + 2, none⟩ = some (.bool l[k].gone)) := Lib.hid ⟨hbo, (hkeep _).trans (hcell 2 _ rfl)⟩
    have hst : Hid ((pairsF i l).take (k + 1) = (pairsF i l).take k ++ [prF i k l[k]]) := Lib.hid (pairsF_take i l hkl)
    clear hcell hne hkeep hbm hbo hbl
    generalize l[k] = z at *
    have hik : Hid (IntKind.i64.wrap ((i : Int) + (k : Int)) = ((i + k : Nat) : Int)) := Lib.hid (by rw [IntWalk.i64_in _ (by omega)]; omega)
    have hik2 : Hid (i + k ≤ 100000) := Lib.hid (by omega)
    have hnw : Hid (IntKind.i64.wrap (z.N.toNat : Int) = (z.N.toNat : Int)) := Lib.hid (IntWalk.i64_in _ (by have := z.N.toNat_lt; omega))
    obtain ⟨wb, hwb⟩ : ∃ y, y = wo := ⟨_, rfl⟩
    rw [← hwb] at hO hm hM q0 q1 q2 ⊢
    clear hwb
    go_wp2_with fail
    -- THE REGION THAT DRAWS ITS ORDER, BY ONE LEXICAL WALK OVER GENERIC VALUES (written by relgen.py)
    refine wp_region_tabG ((fun _ _ v => v = .slice (some ⟨b, off, none⟩) n c) ::
      (fun _ _ v => v = .int .i64 k) ::
      (fun _ _ v => v = .pointer (some ⟨b, off + k * 3, none⟩)) ::
      (fun _ _ v => v = .pointer (some ⟨b, off + k * 3, none⟩)) ::
      (fun _ _ v => v = .int .u8 z.K.toNat) ::
      (fun _ _ v => v = .string (keyF z.K.toNat)) ::
      (fun _ _ v => v = .int .i64 i) ::
      (fun _ _ v => v = .int .i64 k) ::
      (fun _ _ v => v = .int .i64 ((i + k : Nat) : Int)) ::
      (fun _ _ v => v = .slice (some ⟨b, off, none⟩) n c) ::
      (fun _ _ v => v = .int .i64 k) ::
      (fun _ _ v => v = .pointer (some ⟨b, off + k * 3, none⟩)) ::
      (fun _ _ v => v = .pointer (some ⟨b, off + k * 3 + 1, none⟩)) ::
      (fun _ _ v => v = .int .u8 z.N.toNat) ::
      (fun _ _ v => v = .int .i64 z.N.toNat) ::
      (fun _ _ v => v = .string (valS (i + k) z.N.toNat)) ::
      (fun _ _ v => v = .slice (some ⟨b, off, none⟩) n c) ::
      (fun _ _ v => v = .int .i64 k) ::
      (fun _ _ v => v = .pointer (some ⟨b, off + k * 3, none⟩)) ::
      (fun _ _ v => v = .pointer (some ⟨b, off + k * 3 + 2, none⟩)) ::
      (fun _ _ v => v = .bool z.gone) ::
      (fun _ _ v => v = .agg #[.string (keyF z.K.toNat), .string (valS (i + k) z.N.toNat), .bool z.gone]) ::
      (fun L (W : World × Option Nat) v => ∃ g, W.2 = some g ∧ v = .pointer (some ⟨g, 0, none⟩)) ::
      (fun _ _ _ => True) :: [])
      (⟨[(1, none)], 0, []⟩ :: ⟨[(8, none)], 0, []⟩ :: ⟨[(16, some 0), (17, some 1)], 0, []⟩ :: ⟨[(18, some 2)], 0, []⟩ :: ⟨[(19, some 3)], 0, []⟩ :: ⟨[(20, some 4)], 0, []⟩ :: ⟨[(0, none)], 0, []⟩ :: ⟨[(8, none)], 0, []⟩ :: ⟨[(22, some 6), (23, some 7)], 0, []⟩ :: ⟨[(1, none)], 0, []⟩ :: ⟨[(8, none)], 0, []⟩ :: ⟨[(25, some 9), (26, some 10)], 0, []⟩ :: ⟨[(27, some 11)], 0, []⟩ :: ⟨[(28, some 12)], 0, []⟩ :: ⟨[(29, some 13)], 0, []⟩ :: ⟨[(24, some 8), (30, some 14)], 0, []⟩ :: ⟨[(1, none)], 0, []⟩ :: ⟨[(8, none)], 0, []⟩ :: ⟨[(32, some 16), (33, some 17)], 0, []⟩ :: ⟨[(34, some 18)], 0, []⟩ :: ⟨[(35, some 19)], 0, []⟩ :: ⟨[(21, some 5), (31, some 15), (36, some 20)], 0, []⟩ :: ⟨[], 0, []⟩ :: ⟨[(9, some 22), (37, some 21)], 0, []⟩ :: [])
      (none :: none :: none :: none :: none :: none :: none :: none :: none :: some 22 :: none :: none :: none :: none :: none :: none :: some 0 :: some 1 :: some 2 :: some 3 :: some 4 :: some 5 :: some 6 :: some 7 :: some 8 :: some 9 :: some 10 :: some 11 :: some 12 :: some 13 :: some 14 :: some 15 :: some 16 :: some 17 :: some 18 :: some 19 :: some 20 :: some 21 :: [])
      (fun L (W : World × Option Nat) => CMk 22 23 wb 41 (#[.string ⟨#[]⟩, .string ⟨#[]⟩, .bool false]) (#[.string (keyF z.K.toNat), .string (valS (i + k) z.N.toNat), .bool z.gone]) L W) (fun i (W W' : World × Option Nat) => GMk 22 i W W') ?mixK5pairs5 ?okK5pairs5 ?tabK5pairs5 ?frK5pairs5 ?inK5pairs5 ?keptK5pairs5 (none : Option Nat) ?startK5pairs5 ?eachK5pairs5 ?finK5pairs5
    case mixK5pairs5 => kernel_rfl
    case okK5pairs5 => kernel_rfl
    case tabK5pairs5 => kernel_rfl
    case frK5pairs5 => kernel_rfl
    case inK5pairs5 => rfl
    case keptK5pairs5 => exact ⟨fun _ _ _ _ _ _ _ _ _ _ _ h => h, fun _ _ _ _ _ _ _ _ _ _ _ h => h, fun _ _ _ _ _ _ _ _ _ _ _ h => h, fun _ _ _ _ _ _ _ _ _ _ _ h => h, fun _ _ _ _ _ _ _ _ _ _ _ h => h, fun _ _ _ _ _ _ _ _ _ _ _ h => h, fun _ _ _ _ _ _ _ _ _ _ _ h => h, fun _ _ _ _ _ _ _ _ _ _ _ h => h, fun _ _ _ _ _ _ _ _ _ _ _ h => h, fun _ _ _ _ _ _ _ _ _ _ _ h => h, fun _ _ _ _ _ _ _ _ _ _ _ h => h, fun _ _ _ _ _ _ _ _ _ _ _ h => h, fun _ _ _ _ _ _ _ _ _ _ _ h => h, fun _ _ _ _ _ _ _ _ _ _ _ h => h, fun _ _ _ _ _ _ _ _ _ _ _ h => h, fun _ _ _ _ _ _ _ _ _ _ _ h => h, fun _ _ _ _ _ _ _ _ _ _ _ h => h, fun _ _ _ _ _ _ _ _ _ _ _ h => h, fun _ _ _ _ _ _ _ _ _ _ _ h => h, fun _ _ _ _ _ _ _ _ _ _ _ h => h, fun _ _ _ _ _ _ _ _ _ _ _ h => h, fun _ _ _ _ _ _ _ _ _ _ _ h => h, fun i hne hrd L W W' v hLi hC hC' hG ⟨g, h1, h2⟩ => ⟨g, (hG hne).trans h1, h2⟩, fun _ _ _ _ _ _ _ _ _ _ _ h => h, trivial⟩
    case startK5pairs5 => exact CMk.start (Below.refl _ _).drew rfl rfl
    case eachK5pairs5 =>
      refine ⟨?_, ?_, ?_, ?_, ?_, ?_, ?_, ?_, ?_, ?_, ?_, ?_, ?_, ?_, ?_, ?_, ?_, ?_, ?_, ?_, ?_, ?_, ?_, ?_, trivial⟩
      -- 0: slot 16 := move t1
      · intro w γ L f hC hLi hLd hLn hF
        obtain ⟨d1, _⟩ := hF
        have d1 : f 1 = .slice (some ⟨b, off, none⟩) n c := d1
        refine Step2.live rfl ?_
        refine relUpon_ghost γ ?_
        exact relUpon_value (v := f 1) rfl (hC.other (i := 0) (by decide) (by decide) (Below.refl _ _)) (fun _ => rfl) d1
      -- 1: slot 17 := move t8
      · intro w γ L f hC hLi hLd hLn hF
        obtain ⟨d8, _⟩ := hF
        have d8 : f 8 = .int .i64 k := d8
        refine Step2.live rfl ?_
        refine relUpon_ghost γ ?_
        exact relUpon_value (v := f 8) rfl (hC.other (i := 1) (by decide) (by decide) (Below.refl _ _)) (fun _ => rfl) d8
      -- 2: slot 18 := indexAddr 22 t16 t17
      · intro w γ L f hC hLi hLd hLn hF
        obtain ⟨d16, d17, _⟩ := hF
        have d16 : f 16 = .slice (some ⟨b, off, none⟩) n c := d16
        have d17 : f 17 = .int .i64 k := d17
        refine Step2.live rfl ?_
        refine relUpon_ghost γ ?_
        have ev : ∀ t, evalOf f (.tmp t) = f t := fun _ => rfl
        have ec : ∀ c, evalOf f (.const c) = c := fun _ => rfl
        have ef : ∀ g, evalOf f (.func g) = .func (.func g) #[] #[] := fun _ => rfl
        refine relUpon_value ?_ (hC.other (i := 2) (by decide) (by decide) (Below.refl _ _)) (fun _ => rfl) rfl
        go_simp
      -- 3: slot 19 := fieldAddr 85 t18 0
      · intro w γ L f hC hLi hLd hLn hF
        obtain ⟨d18, _⟩ := hF
        have d18 : f 18 = .pointer (some ⟨b, off + k * 3, none⟩) := d18
        refine Step2.live rfl ?_
        refine relUpon_ghost γ ?_
        have ev : ∀ t, evalOf f (.tmp t) = f t := fun _ => rfl
        have ec : ∀ c, evalOf f (.const c) = c := fun _ => rfl
        have ef : ∀ g, evalOf f (.func g) = .func (.func g) #[] #[] := fun _ => rfl
        refine relUpon_value ?_ (hC.other (i := 3) (by decide) (by decide) (Below.refl _ _)) (fun _ => rfl) rfl
        go_simp
      -- 4: slot 20 := load 5 t19
      · intro w γ L f hC hLi hLd hLn hF
        obtain ⟨d19, _⟩ := hF
        have d19 : f 19 = .pointer (some ⟨b, off + k * 3, none⟩) := d19
        refine Step2.live rfl ?_
        have f0 := (hC.bel.cell (p := ⟨b, _, none⟩) q0.out.1).trans q0.out.2
        refine relUpon_ghost γ ?_
        have ev : ∀ t, evalOf f (.tmp t) = f t := fun _ => rfl
        have ec : ∀ c, evalOf f (.const c) = c := fun _ => rfl
        have ef : ∀ g, evalOf f (.func g) = .func (.func g) #[] #[] := fun _ => rfl
        refine relUpon_value ?_ (hC.other (i := 4) (by decide) (by decide) (Below.refl _ _)) (fun _ => rfl) rfl
        go_simp
      -- 5: slot 21 := call { value (Operand.func 15), args := #[t20], argTypes := #[5] }
      · intro w γ L f hC hLi hLd hLn hF
        obtain ⟨d20, _⟩ := hF
        have d20 : f 20 = .int .u8 z.K.toNat := d20
        refine Step2.live rfl ?_
        refine relUpon_ghost γ ?_
        have ev : ∀ t, evalOf f (.tmp t) = f t := fun _ => rfl
        have ec : ∀ c, evalOf f (.const c) = c := fun _ => rfl
        have ef : ∀ g, evalOf f (.func g) = .func (.func g) #[] #[] := fun _ => rfl
        refine relUpon_call (f := 15) (args := #[.int .u8 z.K.toNat]) (w := w) (by go_simp) (key_any w z.K.toNat z.K.toNat_lt) ?_
        rintro e w1 ⟨he, hB⟩
        exact ⟨_, he, hC.other (i := 5) (by decide) (by decide) hB, fun _ => rfl, rfl⟩
      -- 6: slot 22 := move t0
      · intro w γ L f hC hLi hLd hLn hF
        obtain ⟨d0, _⟩ := hF
        have d0 : f 0 = .int .i64 i := d0
        refine Step2.live rfl ?_
        refine relUpon_ghost γ ?_
        exact relUpon_value (v := f 0) rfl (hC.other (i := 6) (by decide) (by decide) (Below.refl _ _)) (fun _ => rfl) d0
      -- 7: slot 23 := move t8
      · intro w γ L f hC hLi hLd hLn hF
        obtain ⟨d8, _⟩ := hF
        have d8 : f 8 = .int .i64 k := d8
        refine Step2.live rfl ?_
        refine relUpon_ghost γ ?_
        exact relUpon_value (v := f 8) rfl (hC.other (i := 7) (by decide) (by decide) (Below.refl _ _)) (fun _ => rfl) d8
      -- 8: slot 24 := binOp BinOp.add 3 t22 t23 3
      · intro w γ L f hC hLi hLd hLn hF
        obtain ⟨d22, d23, _⟩ := hF
        have d22 : f 22 = .int .i64 i := d22
        have d23 : f 23 = .int .i64 k := d23
        refine Step2.live rfl ?_
        have hxw := hik.out
        refine relUpon_ghost γ ?_
        have ev : ∀ t, evalOf f (.tmp t) = f t := fun _ => rfl
        have ec : ∀ c, evalOf f (.const c) = c := fun _ => rfl
        have ef : ∀ g, evalOf f (.func g) = .func (.func g) #[] #[] := fun _ => rfl
        refine relUpon_value ?_ (hC.other (i := 8) (by decide) (by decide) (Below.refl _ _)) (fun _ => rfl) rfl
        go_simp
      -- 9: slot 25 := move t1
      · intro w γ L f hC hLi hLd hLn hF
        obtain ⟨d1, _⟩ := hF
        have d1 : f 1 = .slice (some ⟨b, off, none⟩) n c := d1
        refine Step2.live rfl ?_
        refine relUpon_ghost γ ?_
        exact relUpon_value (v := f 1) rfl (hC.other (i := 9) (by decide) (by decide) (Below.refl _ _)) (fun _ => rfl) d1
      -- 10: slot 26 := move t8
      · intro w γ L f hC hLi hLd hLn hF
        obtain ⟨d8, _⟩ := hF
        have d8 : f 8 = .int .i64 k := d8
        refine Step2.live rfl ?_
        refine relUpon_ghost γ ?_
        exact relUpon_value (v := f 8) rfl (hC.other (i := 10) (by decide) (by decide) (Below.refl _ _)) (fun _ => rfl) d8
      -- 11: slot 27 := indexAddr 22 t25 t26
      · intro w γ L f hC hLi hLd hLn hF
        obtain ⟨d25, d26, _⟩ := hF
        have d25 : f 25 = .slice (some ⟨b, off, none⟩) n c := d25
        have d26 : f 26 = .int .i64 k := d26
        refine Step2.live rfl ?_
        refine relUpon_ghost γ ?_
        have ev : ∀ t, evalOf f (.tmp t) = f t := fun _ => rfl
        have ec : ∀ c, evalOf f (.const c) = c := fun _ => rfl
        have ef : ∀ g, evalOf f (.func g) = .func (.func g) #[] #[] := fun _ => rfl
        refine relUpon_value ?_ (hC.other (i := 11) (by decide) (by decide) (Below.refl _ _)) (fun _ => rfl) rfl
        go_simp
      -- 12: slot 28 := fieldAddr 85 t27 1
      · intro w γ L f hC hLi hLd hLn hF
        obtain ⟨d27, _⟩ := hF
        have d27 : f 27 = .pointer (some ⟨b, off + k * 3, none⟩) := d27
        refine Step2.live rfl ?_
        refine relUpon_ghost γ ?_
        have ev : ∀ t, evalOf f (.tmp t) = f t := fun _ => rfl
        have ec : ∀ c, evalOf f (.const c) = c := fun _ => rfl
        have ef : ∀ g, evalOf f (.func g) = .func (.func g) #[] #[] := fun _ => rfl
        refine relUpon_value ?_ (hC.other (i := 12) (by decide) (by decide) (Below.refl _ _)) (fun _ => rfl) rfl
        go_simp
      -- 13: slot 29 := load 5 t28
      · intro w γ L f hC hLi hLd hLn hF
        obtain ⟨d28, _⟩ := hF
        have d28 : f 28 = .pointer (some ⟨b, off + k * 3 + 1, none⟩) := d28
        refine Step2.live rfl ?_
        have f0 := (hC.bel.cell (p := ⟨b, _, none⟩) q1.out.1).trans q1.out.2
        refine relUpon_ghost γ ?_
        have ev : ∀ t, evalOf f (.tmp t) = f t := fun _ => rfl
        have ec : ∀ c, evalOf f (.const c) = c := fun _ => rfl
        have ef : ∀ g, evalOf f (.func g) = .func (.func g) #[] #[] := fun _ => rfl
        refine relUpon_value ?_ (hC.other (i := 13) (by decide) (by decide) (Below.refl _ _)) (fun _ => rfl) rfl
        go_simp
      -- 14: slot 30 := convert 5 3 t29
      · intro w γ L f hC hLi hLd hLn hF
        obtain ⟨d29, _⟩ := hF
        have d29 : f 29 = .int .u8 z.N.toNat := d29
        refine Step2.live rfl ?_
        have hxw := hnw.out
        refine relUpon_ghost γ ?_
        have ev : ∀ t, evalOf f (.tmp t) = f t := fun _ => rfl
        have ec : ∀ c, evalOf f (.const c) = c := fun _ => rfl
        have ef : ∀ g, evalOf f (.func g) = .func (.func g) #[] #[] := fun _ => rfl
        refine relUpon_value ?_ (hC.other (i := 14) (by decide) (by decide) (Below.refl _ _)) (fun _ => rfl) rfl
        go_simp
      -- 15: slot 31 := call { value (Operand.func 16), args := #[t24, t30], argTypes := #[3, 3] }
      · intro w γ L f hC hLi hLd hLn hF
        obtain ⟨d24, d30, _⟩ := hF
        have d24 : f 24 = .int .i64 ((i + k : Nat) : Int) := d24
        have d30 : f 30 = .int .i64 z.N.toNat := d30
        refine Step2.live rfl ?_
        refine relUpon_ghost γ ?_
        have ev : ∀ t, evalOf f (.tmp t) = f t := fun _ => rfl
        have ec : ∀ c, evalOf f (.const c) = c := fun _ => rfl
        have ef : ∀ g, evalOf f (.func g) = .func (.func g) #[] #[] := fun _ => rfl
        refine relUpon_call (f := 16) (args := #[.int .i64 ((i + k : Nat) : Int), .int .i64 z.N.toNat]) (w := w) (by go_simp) (value_any w (i + k) z.N.toNat hik2.out (by have := z.N.toNat_lt; omega)) ?_
        rintro e w1 ⟨he, hB⟩
        exact ⟨_, he, hC.other (i := 15) (by decide) (by decide) hB, fun _ => rfl, rfl⟩
      -- 16: slot 32 := move t1
      · intro w γ L f hC hLi hLd hLn hF
        obtain ⟨d1, _⟩ := hF
        have d1 : f 1 = .slice (some ⟨b, off, none⟩) n c := d1
        refine Step2.live rfl ?_
        refine relUpon_ghost γ ?_
        exact relUpon_value (v := f 1) rfl (hC.other (i := 16) (by decide) (by decide) (Below.refl _ _)) (fun _ => rfl) d1
      -- 17: slot 33 := move t8
      · intro w γ L f hC hLi hLd hLn hF
        obtain ⟨d8, _⟩ := hF
        have d8 : f 8 = .int .i64 k := d8
        refine Step2.live rfl ?_
        refine relUpon_ghost γ ?_
        exact relUpon_value (v := f 8) rfl (hC.other (i := 17) (by decide) (by decide) (Below.refl _ _)) (fun _ => rfl) d8
      -- 18: slot 34 := indexAddr 22 t32 t33
      · intro w γ L f hC hLi hLd hLn hF
        obtain ⟨d32, d33, _⟩ := hF
        have d32 : f 32 = .slice (some ⟨b, off, none⟩) n c := d32
        have d33 : f 33 = .int .i64 k := d33
        refine Step2.live rfl ?_
        refine relUpon_ghost γ ?_
        have ev : ∀ t, evalOf f (.tmp t) = f t := fun _ => rfl
        have ec : ∀ c, evalOf f (.const c) = c := fun _ => rfl
        have ef : ∀ g, evalOf f (.func g) = .func (.func g) #[] #[] := fun _ => rfl
        refine relUpon_value ?_ (hC.other (i := 18) (by decide) (by decide) (Below.refl _ _)) (fun _ => rfl) rfl
        go_simp
      -- 19: slot 35 := fieldAddr 85 t34 2
      · intro w γ L f hC hLi hLd hLn hF
        obtain ⟨d34, _⟩ := hF
        have d34 : f 34 = .pointer (some ⟨b, off + k * 3, none⟩) := d34
        refine Step2.live rfl ?_
        refine relUpon_ghost γ ?_
        have ev : ∀ t, evalOf f (.tmp t) = f t := fun _ => rfl
        have ec : ∀ c, evalOf f (.const c) = c := fun _ => rfl
        have ef : ∀ g, evalOf f (.func g) = .func (.func g) #[] #[] := fun _ => rfl
        refine relUpon_value ?_ (hC.other (i := 19) (by decide) (by decide) (Below.refl _ _)) (fun _ => rfl) rfl
        go_simp
      -- 20: slot 36 := load 4 t35
      · intro w γ L f hC hLi hLd hLn hF
        obtain ⟨d35, _⟩ := hF
        have d35 : f 35 = .pointer (some ⟨b, off + k * 3 + 2, none⟩) := d35
        refine Step2.live rfl ?_
        have f0 := (hC.bel.cell (p := ⟨b, _, none⟩) q2.out.1).trans q2.out.2
        refine relUpon_ghost γ ?_
        have ev : ∀ t, evalOf f (.tmp t) = f t := fun _ => rfl
        have ec : ∀ c, evalOf f (.const c) = c := fun _ => rfl
        have ef : ∀ g, evalOf f (.func g) = .func (.func g) #[] #[] := fun _ => rfl
        refine relUpon_value ?_ (hC.other (i := 20) (by decide) (by decide) (Below.refl _ _)) (fun _ => rfl) rfl
        go_simp
      -- 21: slot 37 := build 41 #[(0, t21), (1, t31), (2, t36)]
      · intro w γ L f hC hLi hLd hLn hF
        obtain ⟨d21, d31, d36, _⟩ := hF
        have d21 : f 21 = .string (keyF z.K.toNat) := d21
        have d31 : f 31 = .string (valS (i + k) z.N.toNat) := d31
        have d36 : f 36 = .bool z.gone := d36
        refine Step2.live rfl ?_
        refine relUpon_ghost γ ?_
        have ev : ∀ t, evalOf f (.tmp t) = f t := fun _ => rfl
        have ec : ∀ c, evalOf f (.const c) = c := fun _ => rfl
        have ef : ∀ g, evalOf f (.func g) = .func (.func g) #[] #[] := fun _ => rfl
        refine relUpon_value ?_ (hC.other (i := 21) (by decide) (by decide) (Below.refl _ _)) (fun _ => rfl) rfl
        go_simp
      -- 22: slot 9 := alloc 41
      · intro w γ L f hC hLi hLd hLn hF
        refine Step2.live rfl ?_
        refine relUpon_ghost (some w.heap.size) ?_
        have ev : ∀ t, evalOf f (.tmp t) = f t := fun _ => rfl
        have ec : ∀ c, evalOf f (.const c) = c := fun _ => rfl
        have ef : ∀ g, evalOf f (.func g) = .func (.func g) #[] #[] := fun _ => rfl
        refine relUpon_value (w' := w.alloc (.cells #[.string ⟨#[]⟩, .string ⟨#[]⟩, .bool false] 41)) (v := .pointer (some ⟨w.heap.size, 0, none⟩)) (by go_simp) (hC.alloc hLi (by decide)) (fun h => absurd rfl h) ⟨_, rfl, rfl⟩
      -- 23: slot None := store 41 t9 t37
      · intro w γ L f hC hLi hLd hLn hF
        obtain ⟨d9, d37, _⟩ := hF
        have d37 : f 37 = .agg #[.string (keyF z.K.toNat), .string (valS (i + k) z.N.toNat), .bool z.gone] := d37
        refine Step2.live rfl ?_
        obtain ⟨g, hg, e9⟩ := d9
        have hg : γ = some g := hg
        have hZ := hC.zero hLi (hLd 22 (by decide)) hg
        have c0 := hZ.cell 0
        have c1 := hZ.cell 1
        have c2 := hZ.cell 2
        have z0 := hZ.frozen 0
        have z1 := hZ.frozen 1
        have z2 := hZ.frozen 2
        refine relUpon_ghost γ ?_
        have ev : ∀ t, evalOf f (.tmp t) = f t := fun _ => rfl
        have ec : ∀ c, evalOf f (.const c) = c := fun _ => rfl
        have ef : ∀ g, evalOf f (.func g) = .func (.func g) #[] #[] := fun _ => rfl
        refine relUpon_skip (w' := ((w.setCell ⟨g, 0, none⟩ (.string (keyF z.K.toNat))).setCell ⟨g, 1, none⟩ (.string (valS (i + k) z.N.toNat))).setCell ⟨g, 2, none⟩ (.bool z.gone)) ?_ (hC.stored3 hLi (hLd 22 (by decide)) hg) (fun _ => rfl) trivial
        go_simp
    intro x w' γ hC hV

    obtain ⟨g8, hg1, hgB, hgl, _, hdn⟩ := hC.done rfl
    have hH8 := hdn rfl
    obtain ⟨g', hg2, e9⟩ : ∃ g, γ = some g ∧ x 22 = .pointer (some ⟨g, 0, none⟩) := hV 22 _ rfl rfl
    have hg1 : γ = some g8 := hg1
    obtain rfl : g8 = g' := Option.some.inj (hg1.symm.trans hg2)
    have hbC := hC.bel
    clear hV hC hg1 hg2 hdn
    simp only [framed]
    rw [e9]
    clear e9 hik hik2 hnw q0 q1 q2
    have hsm := Lib.hid (prF_sm i k z)
    obtain ⟨pp, hpp⟩ : ∃ pp, pp = prF i k z := ⟨_, rfl⟩
    rw [← hpp] at hst hsm
    have hH8 : Holds w' g8 41 #[.string pp.k, .string pp.v, .bool pp.gone] := by rw [hpp]; exact hH8
    clear hpp
    obtain ⟨pk, pv, pg⟩ := pp
    simp only at hH8
    have hO1 := Lib.hid (own_below hO.out hbC)
    have hm1 : Hid (SMapT w' mm (N + k) (((pairsF i l).take k).foldl chg M)) := Lib.hid (SMap.loc hm.out (hbC.block mm (SMap.lt hm.out)))
    have hM1 : Hid (Writes [some mm] w w') := Lib.hid (hM.out.trans (Writes.of_below hbC _))
    have hgm : Hid (g8 ≠ mm) := Lib.hid (by have := SMap.lt hm.out; omega)
    have hgo : Hid (some g8 ≠ u7.ownBlock) := Lib.hid (fun e => by have := (hO.out.lt g8 e.symm).2; omega)
    clear hO hm hM hbC hgB hgl
    have c0 := hH8.cell 0
    have c1 := hH8.cell 1
    have c2 := hH8.cell 2
    rename World => w4
    have hb4 := below_new w4 (.cells #[.string pk, .string pv, .bool pg] 41)
    have hO4 := Lib.hid (own_below hO1.out hb4)
    have hm4 : SMapT (w4.alloc (.cells #[.string pk, .string pv, .bool pg] 41)) mm (N + k) (((pairsF i l).take k).foldl chg M) := SMap.loc hm1.out (hb4.block mm (SMap.lt hm1.out))
    have hM4 : Hid (Writes [some mm] w (w4.alloc (.cells #[.string pk, .string pv, .bool pg] 41))) := Lib.hid (hM1.out.trans (Writes.of_below hb4 _))
    have hH4 : Hid (Holds (w4.alloc (.cells #[.string pk, .string pv, .bool pg] 41)) g8 41 #[.string pk, .string pv, .bool pg]) := Lib.hid (hH8.alloc _)
    have hnews : Hid (∀ (j : Nat) u, (PairR.cells ⟨pk, pv, pg⟩)[j]? = some u → (w4.alloc (.cells #[.string pk, .string pv, .bool pg] 41)).cell? ((⟨w4.heap.size, 0, none⟩ : Addr).add j) = some u) := Lib.hid (fun j u hu => by
      have hh := Holds.new w4 41 #[.string pk, .string pv, .bool pg]
      have hadd : (⟨w4.heap.size, 0, none⟩ : Addr).add j = ⟨w4.heap.size, j, none⟩ := by unfold Addr.add; split <;> simp_all
      rw [hadd, hh.cell]
      simpa [PairR.cells] using hu)
    have hone : Hid (∀ u ∈ PairR.cells ⟨pk, pv, pg⟩, u.oneCell' = true) := Lib.hid (by simp [PairR.cells]; exact ⟨rfl, rfl, rfl⟩)
    have hsz : Hid (w.heap.size ≤ (w4.alloc (.cells #[.string pk, .string pv, .bool pg] 41)).heap.size) := Lib.hid hM4.out.size
    replace hm4 := Lib.hid hm4
    clear hb4 hO1 hm1 hM1 hH8
    cases pg
    case false =>
      go_wp2_with
        (with_reducible refine at_slot 41 ?_
         go_loud (refine wpList_append_own_at _ rfl (.tmp 38) (.tmp 40) 32 rfl w.heap.size 41 iP _ 3 40 rfl hiP hzP0 hzP1 hzP2 rfl (by omega) u7 k _ rfl hO4.out ⟨w4.heap.size, 0, none⟩ 1 1 (PairR.cells ⟨pk, pv, false⟩) rfl rfl hnews.out hone.out (by unfold maxLen; omega) (by omega) hsz.out ?_)
         intro v5 w5 ho5 hg5 _ _
         have hH5 := hH4.out.grown hg5 hgo.out
         have e0 := hH5.cell 0
         have e1 := hH5.cell 1
         have e2 := hH5.cell 2
         have hO5 : Hid (w5.ownsRow w.heap.size 41 3 v5 (k + 1) (((pairsF i l).take (k + 1)).flatMap PairR.cells)) := Lib.hid (by rw [hst.out, List.flatMap_append]; simpa using ho5)
         have hm5 : SMapT w5 mm (N + k) (((pairsF i l).take k).foldl chg M) := SMap.loc hm4.out (hg5.block mm (SMap.lt hm4.out) (fun e => by have := ownP_ge hO4.out e.symm; omega))
         have hM5 : Hid (Writes [some mm] w w5) := Lib.hid (hM4.out.then_ (Writes.of_grown hg5 (M := [u7.ownBlock]) (by simp)) (fun j hj e => by
           have := ownP_ge hO4.out (List.mem_singleton.1 e).symm
           omega))
         have hvm : Hid (v5.ownBlock ≠ some mm) := Lib.hid (fun e => by have := ownP_ge hO5.out e; omega)
         obtain ⟨w6, hrun, hm6, hM6⟩ := hm5.put ⟨pk, pv, false⟩ hsm.out (by omega) rfl
         simp only at hrun
         have hfin : Hid (w6.ownsRow w.heap.size 41 3 v5 (k + 1) (((pairsF i l).take (k + 1)).flatMap PairR.cells) ∧ SMapT w6 mm (N + (k + 1)) (((pairsF i l).take (k + 1)).foldl chg M) ∧ Writes [some mm] w w6) := Lib.hid ⟨hM6.own hO5.out (.inr (by simpa using hvm.out)), by rw [hst.out, List.foldl_append]; exact hm6, hM5.out.trans hM6⟩
         clear ho5 hg5 hH5 hm5 hm6 hM6)
      exact ⟨⟨k + 1, by omega, by simp, Lib.hid hfin.out.1, Lib.hid hfin.out.2.1, Lib.hid hfin.out.2.2⟩, by simp [intOf]; omega⟩
    case true =>
      go_wp2_with
        (with_reducible refine at_slot 41 ?_
         go_loud (refine wpList_append_own_at _ rfl (.tmp 38) (.tmp 40) 32 rfl w.heap.size 41 iP _ 3 40 rfl hiP hzP0 hzP1 hzP2 rfl (by omega) u7 k _ rfl hO4.out ⟨w4.heap.size, 0, none⟩ 1 1 (PairR.cells ⟨pk, pv, true⟩) rfl rfl hnews.out hone.out (by unfold maxLen; omega) (by omega) hsz.out ?_)
         intro v5 w5 ho5 hg5 _ _
         have hH5 := hH4.out.grown hg5 hgo.out
         have e0 := hH5.cell 0
         have e1 := hH5.cell 1
         have e2 := hH5.cell 2
         have hO5 : Hid (w5.ownsRow w.heap.size 41 3 v5 (k + 1) (((pairsF i l).take (k + 1)).flatMap PairR.cells)) := Lib.hid (by rw [hst.out, List.flatMap_append]; simpa using ho5)
         have hm5 : SMapT w5 mm (N + k) (((pairsF i l).take k).foldl chg M) := SMap.loc hm4.out (hg5.block mm (SMap.lt hm4.out) (fun e => by have := ownP_ge hO4.out e.symm; omega))
         have hM5 : Hid (Writes [some mm] w w5) := Lib.hid (hM4.out.then_ (Writes.of_grown hg5 (M := [u7.ownBlock]) (by simp)) (fun j hj e => by
           have := ownP_ge hO4.out (List.mem_singleton.1 e).symm
           omega))
         have hvm : Hid (v5.ownBlock ≠ some mm) := Lib.hid (fun e => by have := ownP_ge hO5.out e; omega)
         obtain ⟨w6, hrun, hm6, hM6⟩ := hm5.del ⟨pk, pv, true⟩ hsm.out rfl
         simp only at hrun
         have hfin : Hid (w6.ownsRow w.heap.size 41 3 v5 (k + 1) (((pairsF i l).take (k + 1)).flatMap PairR.cells) ∧ SMapT w6 mm (N + (k + 1)) (((pairsF i l).take (k + 1)).foldl chg M) ∧ Writes [some mm] w w6) := Lib.hid ⟨hM6.own hO5.out (.inr (by simpa using hvm.out)), by rw [hst.out, List.foldl_append]; exact hm6, hM5.out.trans hM6⟩
         clear ho5 hg5 hH5 hm5 hm6 hM6)
      exact ⟨⟨k + 1, by omega, by simp, Lib.hid hfin.out.1, Lib.hid hfin.out.2.1, Lib.hid hfin.out.2.2⟩, by simp [intOf]; omega⟩
  · obtain rfl : k = n := by omega
    have hki : ¬ (k : Int) < (k : Int) := by omega
    have htk : (pairsF i l).take k = pairsF i l := List.take_of_length_le (by rw [pairsF_length, hl.out]; exact Nat.le_refl _)
    rw [htk] at hO hm
    clear htk
    go_wp2_with fail
    go_ret
    exact ⟨⟨_, rfl, hO.out⟩, hm.out, hM.out⟩
end Go.Proofs.YtelglbblgkhcmaaGreat
namespace Go.Proofs.YtelglbblgkhcmaaGreat
open Go.RowKit Go.Deep Go.ChangeShapes Go.WideShapes

theorem Tryz.cLP : Tryz.prog.cellsOf 85 = 3 := by kernel_rfl
theorem Tryz.cAct5 : Tryz.prog.cellsOf 51 = 2 := by kernel_rfl
theorem Tryz.cU8 : Tryz.prog.cellsOf 5 = 1 := by kernel_rfl
theorem Tryz.cBo : Tryz.prog.cellsOf 4 = 1 := by kernel_rfl
theorem Tryz.cIn : Tryz.prog.cellsOf 3 = 1 := by kernel_rfl
theorem Tryz.cLPs : Tryz.prog.cellsOf 22 = 1 := by kernel_rfl
set_option maxRecDepth 100000 in
theorem ArgOk.u64 {W : World} {v : Value} (h : ArgOk 59 W v) : ∃ n : Nat, v = .int .u64 n ∧ n < 18446744073709551616 := by
  obtain ⟨H, enc, d, p, base, hok, hf⟩ := h
  obtain ⟨n, rfl, _, _, hw⟩ := open_int Tryz.underlying59 hok hf
  simp [Lit.wf, IntKind.min, IntKind.max, IntKind.signed, IntKind.bits] at hw
  exact ⟨n.toNat, by rw [Int.toNat_of_nonneg hw.1], by omega⟩
theorem u8_of_wf {n : Int} (hw : (Lit.int .u8 n).wf = true) : ∃ x : UInt8, Value.int .u8 n = .int .u8 x.toNat := by
  have := bounds_u8 hw
  exact ⟨UInt8.ofNat n.toNat, by rw [UInt8.toNat_ofNat_of_lt' (show n.toNat < 256 by omega), Int.toNat_of_nonneg this.1]⟩
structure Act5 where
  what : Int
  A : Option Addr
  c : Nat
  l : List LP
def Act5.cells (a : Act5) : List Value := [.int .i64 a.what, .slice a.A a.l.length a.c]
def Act5.ok (W : World) (a : Act5) : Prop := (-9223372036854775808 ≤ a.what ∧ a.what ≤ 9223372036854775807) ∧ Row W W.heap.size a.A (a.l.flatMap LP.cells) ∧ a.l.length ≤ a.c ∧ a.c ≤ maxLen
section
variable {W : World} {cs : List Value}
set_option maxRecDepth 100000 in
theorem Trd.lp (h : Trd 85 W cs) : ∃ x : LP, cs = x.cells := by
  obtain ⟨hl, hf⟩ := h.struct Tryz.underlying85
  rw [Tryz.cLP] at hl
  match cs, hl with
  | [a, b, c], _ =>
    have h0 : Trd 5 W (([a, b, c].drop 0).take (Tryz.prog.cellsOf 5)) := hf 0 _ rfl
    have h1 : Trd 5 W (([a, b, c].drop 1).take (Tryz.prog.cellsOf 5)) := hf 1 _ rfl
    have h2 : Trd 4 W (([a, b, c].drop 2).take (Tryz.prog.cellsOf 4)) := hf 2 _ rfl
    rw [Tryz.cU8] at h0 h1
    rw [Tryz.cBo] at h2
    simp only [List.drop_zero, List.drop_succ_cons, List.take_succ_cons, List.take_zero] at h0 h1 h2
    obtain ⟨n0, e0, w0⟩ := h0.int Tryz.underlying5
    obtain ⟨n1, e1, w1⟩ := h1.int Tryz.underlying5
    obtain ⟨g, e2⟩ := h2.bool Tryz.underlying4
    simp only [List.cons.injEq, and_true] at e0 e1 e2
    obtain ⟨x, hx⟩ := u8_of_wf w0
    obtain ⟨y, hy⟩ := u8_of_wf w1
    exact ⟨⟨x, y, g⟩, by rw [e0, e1, e2, hx, hy]; rfl⟩
theorem lps_of : ∀ css : List (List Value), (∀ x ∈ css, Trd 85 W x) → ∃ l : List LP, l.length = css.length ∧ css.flatten = l.flatMap LP.cells
  | [], _ => ⟨[], rfl, rfl⟩
  | y :: r, hy => by
    obtain ⟨l, h1, h2⟩ := lps_of r fun x hx => hy x (List.mem_cons_of_mem _ hx)
    obtain ⟨a, rfl⟩ := (hy y (List.mem_cons_self ..)).lp
    exact ⟨a :: l, by simp [h1], by simp [h2]⟩
set_option maxRecDepth 100000 in
theorem Trd.lps (h : Trd 22 W cs) : ∃ (A : Option Addr) (c : Nat) (l : List LP), cs = [.slice A l.length c] ∧ l.length ≤ c ∧ c ≤ maxLen ∧ Row W W.heap.size A (l.flatMap LP.cells) := by
  obtain ⟨A, n, c, css, e, h1, h2, h3, h4, h5⟩ := h.slice Tryz.underlying22
  obtain ⟨l, h6, h7⟩ := lps_of css fun x hx => (h4 x hx).2
  have e1 : l.length = n := by omega
  subst e1
  exact ⟨A, c, l, e, h2, h3, by rw [← h7]; exact h5⟩
set_option maxRecDepth 100000 in
theorem Trd.act5 (h : Trd 51 W cs) : ∃ a : Act5, cs = a.cells ∧ a.ok W := by
  obtain ⟨hl, hf⟩ := h.struct Tryz.underlying51
  rw [Tryz.cAct5] at hl
  match cs, hl with
  | [a, b], _ =>
    have h0 : Trd 3 W (([a, b].drop 0).take (Tryz.prog.cellsOf 3)) := hf 0 _ rfl
    have h1 : Trd 22 W (([a, b].drop 1).take (Tryz.prog.cellsOf 22)) := hf 1 _ rfl
    rw [Tryz.cIn] at h0
    rw [Tryz.cLPs] at h1
    simp only [List.drop_zero, List.drop_succ_cons, List.take_succ_cons, List.take_zero] at h0 h1
    obtain ⟨n, e0, w0⟩ := h0.int Tryz.underlying3
    obtain ⟨A, c, l, e1, h2, h3, h4⟩ := h1.lps
    simp only [List.cons.injEq, and_true] at e0 e1
    subst e0 e1
    simp [Lit.wf, IntKind.min, IntKind.max, IntKind.signed, IntKind.bits] at w0
    exact ⟨⟨n, A, c, l⟩, rfl, by simp only; omega, h4, h2, h3⟩
end
set_option maxRecDepth 100000 in
theorem ArgOk.lps {W : World} {v : Value} (h : ArgOk 22 W v) : ∃ (A : Option Addr) (n c : Nat) (l : List LP), v = .slice A n c ∧ l.length = n ∧ n ≤ c ∧ c ≤ maxLen ∧ Row W W.heap.size A (l.flatMap LP.cells) := by
  obtain ⟨A, n, c, rfl⟩ := okWide_slice Tryz.underlying22 h.choose_spec.choose_spec.choose_spec.choose_spec.choose_spec.1
  obtain ⟨A', c', l, e, h1, h2, h3⟩ := h.trd.lps
  simp [Value.cells] at e
  obtain ⟨rfl, rfl, rfl⟩ := e
  exact ⟨_, _, _, l, rfl, rfl, h1, h2, h3⟩
/-- A script behind A. -/
structure Acts5 (W : World) (A : Option Addr) (l : List Act5) : Prop where
  row : Row W W.heap.size A (l.flatMap Act5.cells)
  ok : ∀ a ∈ l, a.ok W
set_option maxRecDepth 100000 in
theorem ArgOk.acts5 {W : World} {v : Value} (h : ArgOk 48 W v) : ∃ (A : Option Addr) (n c : Nat) (l : List Act5), v = .slice A n c ∧ l.length = n ∧ n ≤ c ∧ c ≤ maxLen ∧ Acts5 W A l := by
  obtain ⟨A, n, c, rfl⟩ := okWide_slice Tryz.underlying48 h.choose_spec.choose_spec.choose_spec.choose_spec.choose_spec.1
  obtain ⟨A', n', c', css, e, h1, h2, h3, h4, h5⟩ := h.trd.slice Tryz.underlying48
  simp [Value.cells] at e
  obtain ⟨rfl, rfl, rfl⟩ := e
  have : ∀ css : List (List Value), (∀ x ∈ css, Trd 51 W x) → ∃ l : List Act5, l.length = css.length ∧ css.flatten = l.flatMap Act5.cells ∧ ∀ a ∈ l, a.ok W := by
    intro css
    induction css with
    | nil => exact fun _ => ⟨[], rfl, rfl, by simp⟩
    | cons y r ih =>
      intro hy
      obtain ⟨l, h1, h2, h3⟩ := ih fun x hx => hy x (List.mem_cons_of_mem _ hx)
      obtain ⟨a, rfl, ha⟩ := (hy y (List.mem_cons_self ..)).act5
      refine ⟨a :: l, by simp [h1], by simp [h2], fun x hx => ?_⟩
      rcases List.mem_cons.1 hx with rfl | hx
      · exact ha
      · exact h3 x hx
  obtain ⟨l, h6, h7, h8⟩ := this css fun x hx => (h4 x hx).2
  exact ⟨_, _, _, l, rfl, by omega, h2, h3, ⟨by rw [← h7]; exact h5, h8⟩⟩
/-- The cells of the i-th act. -/
theorem Acts5.at_ {W w : World} {A : Option Addr} {l : List Act5} (h : Acts5 W A l) (hb : Below W.heap.size W w) {i : Nat} (hi : i < l.length) : ∃ b off, A = some ⟨b, off, none⟩ ∧ w.cell? ⟨b, off + i * 2, none⟩ = some (.int .i64 l[i].what) ∧ w.cell? ⟨b, off + i * 2 + 1, none⟩ = some (.slice l[i].A l[i].l.length l[i].c) ∧ Row w w.heap.size l[i].A (l[i].l.flatMap LP.cells) := by
  obtain ⟨b, off, e, hlt, _, hc⟩ := Row.elem (C := 2) h.row (fun _ _ => rfl) (by omega) hi
  exact ⟨b, off, e, (hb.cell (p := ⟨b, _, none⟩) hlt).trans (hc 0 _ rfl), (hb.cell (p := ⟨b, _, none⟩) hlt).trans (hc 1 _ rfl), ((h.ok _ (List.getElem_mem hi)).2.1.below hb).more hb.size⟩
def lightS (l : List Act5) : Bool := decide (l.length ≤ 30) && l.all fun a => decide (a.l.length ≤ 5)
theorem lightS_lens {l : List Act5} (h : lightS l = true) : l.length ≤ 30 ∧ ∀ a ∈ l, a.l.length ≤ 5 := by
  unfold lightS at h
  rw [Bool.and_eq_true, List.all_eq_true] at h
  exact ⟨of_decide_eq_true h.1, fun a ha => of_decide_eq_true (h.2 a ha)⟩
set_option maxRecDepth 100000 in
set_option maxHeartbeats 4000000 in
theorem light5_any (W w : World) (hb : Below W.heap.size W w) (A : Option Addr) (n c : Nat) (l : List Act5) (hl : l.length = n) (hm : n ≤ maxLen) (ha : Acts5 W A l) :
    Calls Tryz.prog 19 #[.slice A n c] w fun e w' => e = .returned (.bool (lightS l)) ∧ Below w.heap.size w w' := by
  unfold maxLen at hm
  have hB := Lib.hid hb
  have hA := Lib.hid ha
  have hl' := Lib.hid hl
  clear hb ha hl
  by_cases h30 : 30 < n
  · have hmi : (30 : Int) < (n : Int) := by omega
    have hf : Hid (lightS l = false) := Lib.hid (by unfold lightS; rw [hl'.out, decide_eq_false (by omega)]; rfl)
    go_enter Tryz.func19, Tryz.ntmps19
    go_wp2_with fail
    go_ret
    exact ⟨by rw [hf.out]; rfl, Below.refl _ _⟩
  have hmi : ¬ (30 : Int) < (n : Int) := by omega
  go_enter Tryz.func19, Tryz.ntmps19
  go_wp2_with fail
  go_loopw [3] (fun iv wr => ∃ i : Nat, i ≤ n ∧ iv = .int .i64 i ∧ Hid (∀ a ∈ l.take i, a.l.length ≤ 5) ∧ Hid (wr = w)) (fun iv _ => n - (intOf iv).toNat)
  case atStart => exact ⟨0, by omega, rfl, Lib.hid (by simp), Lib.hid rfl⟩
  obtain ⟨i, hi, rfl, hpre, hwr⟩ := hrel
  by_cases hin : i < n
  · have hil : i < l.length := by rw [hl'.out]; exact hin
    obtain ⟨b, off, rfl, hc0, hc1, _⟩ := hA.out.at_ hB.out hil
    rw [← hwr.out] at hc0 hc1
    obtain ⟨a, haa⟩ : ∃ a, a = l[i] := ⟨_, rfl⟩
    rw [← haa] at hc0 hc1
    have hai := Lib.hid haa
    clear haa
    have hii : (i : Int) < (n : Int) := by omega
    have hiw : IntKind.i64.wrap ((i : Int) + 1) = ((i + 1 : Nat) : Int) := by rw [IntWalk.i64_in _ (by omega)]; omega
    obtain ⟨k, hk⟩ : ∃ k, k = a.l.length := ⟨_, rfl⟩
    rw [← hk] at hc1
    have hk' := Lib.hid hk
    clear hk
    by_cases h6 : 5 < k
    · have h6i : (5 : Int) < (k : Int) := by omega
      have hf : Hid (lightS l = false) := Lib.hid (by
        have : l.all (fun a => decide (a.l.length ≤ 5)) = false := by
          rw [List.all_eq_false]
          exact ⟨l[i], List.getElem_mem hil, by rw [← hai.out, ← hk'.out]; simp; omega⟩
        unfold lightS
        rw [this, Bool.and_false])
      go_wp2_with fail
      go_ret
      exact ⟨by rw [hf.out]; rfl, by rw [hwr.out]; exact Below.refl _ _⟩
    · have h6i : ¬ (5 : Int) < (k : Int) := by omega
      have hnx : Hid (∀ a ∈ l.take (i + 1), a.l.length ≤ 5) := Lib.hid (fun x hx => by
        rw [List.take_succ_eq_append_getElem hil, List.mem_append, List.mem_singleton] at hx
        rcases hx with hx | rfl
        · exact hpre.out x hx
        · rw [← hai.out, ← hk'.out]; omega)
      go_wp2_with fail
      refine ⟨⟨i + 1, by omega, by simp, hnx, hwr⟩, by simp [intOf]; omega⟩
  · obtain rfl : n = i := by omega
    have hii : ¬ (n : Int) < (n : Int) := by omega
    have hf : Hid (lightS l = true) := Lib.hid (by
      unfold lightS
      rw [Bool.and_eq_true, List.all_eq_true]
      refine ⟨decide_eq_true (by rw [hl'.out]; omega), fun a ha => decide_eq_true (hpre.out a ?_)⟩
      rw [List.take_of_length_le (by rw [hl'.out]; exact Nat.le_refl _)]
      exact ha)
    go_wp2_with fail
    go_ret
    exact ⟨by rw [hf.out]; rfl, by rw [hwr.out]; exact Below.refl _ _⟩
end Go.Proofs.YtelglbblgkhcmaaGreat
