/-
  Plain laws of package sum: the table of four steps, CRC-32, FNV-1a, as functions on numbers. No program in sight.
-/
import Derived.WalkKit
namespace Go.Proofs.YtelglbblgkhcmaaGreat

/-- One step of the division. -/
def nibS (c : Nat) : Nat := if c % 2 = 1 then c / 2 ^^^ 3988292384 else c / 2
def nibN : Nat → Nat → Nat
  | 0, c => c
  | m + 1, c => nibS (nibN m c)
theorem nibS_lt {c : Nat} (h : c < 4294967296) : nibS c < 4294967296 := by
  unfold nibS
  split
  · exact Nat.xor_lt_two_pow (n := 32) (by omega) (by omega)
  · omega
theorem nibN_lt (m k : Nat) (h : k < 4294967296) : nibN m k < 4294967296 := by
  induction m with
  | zero => exact h
  | succ m ih => exact nibS_lt ih

/-- The table's first k entries; the others still 0. -/
def tabV (k : Nat) : Array Value := ((List.range 16).map fun i => Value.int .u32 (if i < k then ((nibN 4 i : Nat) : Int) else 0)).toArray
theorem tabV_get (k : Nat) (h : k < 16) : (tabV k)[k]? = some (Value.int .u32 0) := by simp [tabV, h]
theorem tabV_set (k : Nat) (h : k < 16) : (tabV k).setIfInBounds k (Value.int .u32 (nibN 4 k : Nat)) = tabV (k + 1) := by
  apply Array.ext_getElem?
  intro i
  simp only [tabV, Array.getElem?_setIfInBounds, List.getElem?_toArray, List.getElem?_map, List.size_toArray, List.length_map, List.length_range]
  by_cases hi : k = i
  · subst hi; simp [h]
  · rw [if_neg hi]
    by_cases hl : i < 16
    · simp only [List.getElem?_range hl, Option.map_some]
      by_cases hk : i < k
      · rw [if_pos hk, if_pos (by omega)]
      · rw [if_neg hk, if_neg (by omega)]
    · rw [List.getElem?_eq_none (by simpa using hl)]; rfl
theorem and1_u32 (c : Nat) (h : c < 4294967296) : bits .and .u32 (c : Int) 1 = ((c % 2 : Nat) : Int) := by
  have := u32_and_nat c 1 h (by omega)
  rw [nat_mask1] at this
  exact this
theorem xor_u32 (c d : Nat) (h : c < 4294967296) (hd : d < 4294967296) : bits .xor .u32 (c : Int) (d : Int) = ((c ^^^ d : Nat) : Int) := u32_xor_nat c d h hd
theorem nib_odd (m k : Nat) (h : nibN m k % 2 = 1) : (nibN m k / 2 ^^^ 3988292384) = nibN (m + 1) k := by
  show _ = nibS (nibN m k)
  rw [nibS, if_pos h]
theorem nib_even (m k : Nat) (h : ¬ nibN m k % 2 = 1) : nibN m k / 2 = nibN (m + 1) k := by
  show _ = nibS (nibN m k)
  rw [nibS, if_neg h]
/-- One byte of CRC-32. -/
def crcS (c : Nat) (b : UInt8) : Nat := nibN 8 (c ^^^ b.toNat)
def crcL (c : Nat) (l : List UInt8) : Nat := l.foldl crcS c
/-- CRC-32 of the parts. -/
def crcOf (ls : List (List UInt8)) : Nat := 4294967295 - crcL 4294967295 ls.flatten

theorem crcS_lt (c : Nat) (b : UInt8) (h : c < 4294967296) : crcS c b < 4294967296 := by
  unfold crcS
  apply nibN_lt
  have := b.toNat_lt
  exact Nat.xor_lt_two_pow (n := 32) h (by omega)
theorem crcL_lt (c : Nat) (l : List UInt8) (h : c < 4294967296) : crcL c l < 4294967296 := by
  induction l generalizing c with
  | nil => exact h
  | cons b l ih => exact ih _ (crcS_lt c b h)
theorem crcL_append (c : Nat) (l m : List UInt8) : crcL c (l ++ m) = crcL (crcL c l) m := List.foldl_append ..
theorem crcL_snoc (c : Nat) (l : List UInt8) (k : Nat) (h : k < l.length) : crcL c (l.take (k + 1)) = crcS (crcL c (l.take k)) l[k] := by
  rw [List.take_succ_eq_append_getElem h, crcL_append]
  rfl
theorem flat_snoc {α : Type} (ls : List (List α)) (k : Nat) (h : k < ls.length) : (ls.take (k + 1)).flatten = (ls.take k).flatten ++ ls[k] := by
  rw [List.take_succ_eq_append_getElem h, List.flatten_append]
  simp

theorem nibS_xor (a b : Nat) : nibS (a ^^^ b) = nibS a ^^^ nibS b := by
  have hd : (a ^^^ b) / 2 = a / 2 ^^^ b / 2 := Nat.xor_div_two
  have hm : (a ^^^ b) % 2 = (a % 2 + b % 2) % 2 := by
    have h1 := Nat.xor_mod_two_eq_one (a := a) (b := b)
    have h2 := Nat.mod_two_eq_zero_or_one (a ^^^ b)
    have h3 := Nat.mod_two_eq_zero_or_one a
    have h4 := Nat.mod_two_eq_zero_or_one b
    generalize a ^^^ b = x at *
    rcases h3 with h3 | h3 <;> rcases h4 with h4 | h4 <;> rw [h3, h4] at h1 ⊢ <;> simp at h1 ⊢ <;> omega
  unfold nibS
  rw [hd, hm]
  rcases Nat.mod_two_eq_zero_or_one a with ha | ha <;> rcases Nat.mod_two_eq_zero_or_one b with hb | hb <;> simp [ha, hb]
  · rw [Nat.xor_assoc]
  · rw [Nat.xor_assoc, Nat.xor_assoc, Nat.xor_comm 3988292384]
  · rw [Nat.xor_assoc, ← Nat.xor_assoc 3988292384 (b / 2), Nat.xor_comm 3988292384 (b / 2), Nat.xor_assoc (b / 2), Nat.xor_self, Nat.xor_zero]
theorem nibN_xor (m a b : Nat) : nibN m (a ^^^ b) = nibN m a ^^^ nibN m b := by
  induction m with
  | zero => rfl
  | succ m ih => show nibS _ = nibS _ ^^^ nibS _; rw [ih, nibS_xor]
theorem nib4_shift (c : Nat) : nibN 4 (16 * c) = c := by
  have h : ∀ d, nibS (2 * d) = d := fun d => by
    unfold nibS
    rw [if_neg (by omega)]
    omega
  show nibS (nibS (nibS (nibS (16 * c)))) = c
  rw [show 16 * c = 2 * (2 * (2 * (2 * c))) by omega, h, h, h, h]
theorem nib4 (c : Nat) : nibN 4 (c % 16) ^^^ c / 16 = nibN 4 c := by
  have e : c = c % 16 ^^^ 16 * (c / 16) := by
    have h1 : 16 * (c / 16) = (c / 16) <<< 4 := by rw [Nat.shiftLeft_eq]; omega
    have h2 : (c / 16) <<< 4 ||| c % 16 = (c / 16) <<< 4 + c % 16 := (Nat.shiftLeft_add_eq_or_of_lt (by omega) _).symm
    apply Nat.eq_of_testBit_eq
    intro i
    rw [Nat.testBit_xor, h1, Nat.testBit_shiftLeft, show c % 16 = c % 2 ^ 4 from rfl, Nat.testBit_mod_two_pow, show c / 16 = c / 2 ^ 4 from rfl, Nat.testBit_div_two_pow]
    by_cases h4 : i < 4
    · simp [h4, show ¬ (4 ≤ i) by omega]
    · simp [h4, show 4 ≤ i by omega]
  conv => rhs; rw [e, nibN_xor, nib4_shift]
theorem nibN_add (m n c : Nat) : nibN (m + n) c = nibN m (nibN n c) := by
  induction m with
  | zero => rw [Nat.zero_add]; rfl
  | succ m ih => rw [Nat.succ_add]; show nibS _ = nibS _; rw [ih]
/-- Two steps over the table are one byte. -/
theorem crc_two (c : Nat) (b : UInt8) : nibN 4 ((nibN 4 ((c ^^^ b.toNat) % 16) ^^^ (c ^^^ b.toNat) / 16) % 16) ^^^ (nibN 4 ((c ^^^ b.toNat) % 16) ^^^ (c ^^^ b.toNat) / 16) / 16 = crcS c b := by
  rw [nib4, nib4, ← nibN_add]
  rfl
theorem tabV_all (j : Nat) (h : j < 16) : (tabV 16)[j]? = some (Value.int .u32 (nibN 4 j : Nat)) := by simp [tabV, h]
theorem and15_u32 (c : Nat) (h : c < 4294967296) : bits .and .u32 (c : Int) 15 = ((c % 16 : Nat) : Int) := by
  have := u32_and_nat c 15 h (by omega)
  rw [nat_mask4] at this
  exact this
theorem notv (x : Nat) (h : x < 4294967296) : (4294967295 ^^^ x) = 4294967295 - x := by
  have h1 : (~~~ (BitVec.ofNat 32 x)).toNat = 4294967295 - x := by rw [BitVec.toNat_not, BitVec.toNat_ofNat, Nat.mod_eq_of_lt h]
  have h2 : ~~~ (BitVec.ofNat 32 x) = BitVec.allOnes 32 ^^^ BitVec.ofNat 32 x := by rw [BitVec.not_def]
  rw [← h1, h2, BitVec.toNat_xor, BitVec.toNat_ofNat, Nat.mod_eq_of_lt h]; rfl
theorem not_u32 (c : Nat) (h : c < 4294967296) : bits .xor .u32 IntKind.u32.max (c : Int) = ((4294967295 - c : Nat) : Int) := by
  have := u32_xor_nat 4294967295 c (by omega) h
  rw [notv c h] at this
  exact this

/-- One byte of FNV-1a. -/
def mixN (h b : Nat) : Nat := (h ^^^ b) * 1099511628211 % 18446744073709551616
theorem mixN_lt (h b : Nat) : mixN h b < 18446744073709551616 := Nat.mod_lt _ (by omega)
/-- The first m of the four bytes of a length. -/
def lenN (h n : Nat) : Nat → Nat
  | 0 => h
  | m + 1 => mixN (lenN h n m) (n / 2 ^ (24 - 8 * m) % 256)
theorem lenN_lt (h n m : Nat) (hh : h < 18446744073709551616) : lenN h n m < 18446744073709551616 := by
  cases m with
  | zero => exact hh
  | succ m => exact mixN_lt _ _
def mixL (h : Nat) (l : List UInt8) : Nat := l.foldl (fun h b => mixN h b.toNat) h
theorem mixL_lt (h : Nat) (l : List UInt8) (hh : h < 18446744073709551616) : mixL h l < 18446744073709551616 := by
  induction l generalizing h with
  | nil => exact hh
  | cons b l ih => exact ih _ (mixN_lt _ _)
theorem mixL_snoc (h : Nat) (l : List UInt8) (k : Nat) (hk : k < l.length) : mixL h (l.take (k + 1)) = mixN (mixL h (l.take k)) l[k].toNat := by
  unfold mixL
  rw [List.take_succ_eq_append_getElem hk, List.foldl_append, List.foldl_cons, List.foldl_nil]
theorem mixL_str (q : Nat) (s : ByteArray) (j : Nat) (h : j < s.size) : mixL q (s.data.toList.take (j + 1)) = mixN (mixL q (s.data.toList.take j)) s[j].toNat :=
  mixL_snoc q s.data.toList j h
theorem lenN_1 (h n : Nat) (z : Int) (hz : z = (n : Int) / 16777216 % 256) : lenN h n (0 + 1) = mixN (lenN h n 0) z.toNat := by subst hz; show mixN _ (n / 16777216 % 256) = _; congr 1
theorem lenN_2 (h n : Nat) (z : Int) (hz : z = (n : Int) / 65536 % 256) : lenN h n (1 + 1) = mixN (lenN h n 1) z.toNat := by subst hz; show mixN _ (n / 65536 % 256) = _; congr 1
theorem lenN_3 (h n : Nat) (z : Int) (hz : z = (n : Int) / 256 % 256) : lenN h n (2 + 1) = mixN (lenN h n 2) z.toNat := by subst hz; show mixN _ (n / 256 % 256) = _; congr 1
theorem lenN_4 (h n : Nat) (z : Int) (hz : z = (n : Int) % 256) : lenN h n (3 + 1) = mixN (lenN h n 3) z.toNat := by subst hz; show mixN _ (n / 1 % 256) = _; rw [Nat.div_one]; congr 1
theorem mixL_zero (q : Nat) (l : List UInt8) : mixL q (l.take 0) = q := by simp [mixL]
def printS (h : Nat) (s : ByteArray) : Nat := mixL (lenN h (s.size % 4294967296) 4) s.data.toList
def printL (h : Nat) (ss : List ByteArray) : Nat := ss.foldl printS h
theorem printS_eq (p : Nat) (s : ByteArray) : printS p s = mixL (lenN p (s.size % 4294967296) 4) s.data.toList := by unfold printS; with_reducible rfl
theorem printS_lt (h : Nat) (s : ByteArray) (hh : h < 18446744073709551616) : printS h s < 18446744073709551616 := mixL_lt _ _ (lenN_lt _ _ _ hh)
theorem printL_lt (h : Nat) (ss : List ByteArray) (hh : h < 18446744073709551616) : printL h ss < 18446744073709551616 := by
  induction ss generalizing h with
  | nil => exact hh
  | cons b l ih => exact ih _ (printS_lt _ _ hh)
theorem printL_snoc (h : Nat) (ss : List ByteArray) (k : Nat) (hk : k < ss.length) : printL h (ss.take (k + 1)) = printS (printL h (ss.take k)) ss[k] := by
  unfold printL
  rw [List.take_succ_eq_append_getElem hk, List.foldl_append, List.foldl_cons, List.foldl_nil]
/-- FNV-1a of the texts, each behind its length. -/
def printOf (ss : List ByteArray) : Nat := printL 14695981039346656037 ss
theorem printOf_eq (ss : List ByteArray) : printL 14695981039346656037 ss = printOf ss := by unfold printOf; with_reducible rfl
theorem xor_u64 (c d : Nat) (h : c < 18446744073709551616) (hd : d < 18446744073709551616) : bits .xor .u64 (c : Int) (d : Int) = ((c ^^^ d : Nat) : Int) := u64_xor_nat c d h hd

theorem known1 : crcOf [[49, 50, 51, 52, 53], [54, 55, 56, 57]] = 3421780262 := by decide +kernel
theorem known2 : printOf [] = 14695981039346656037 := by decide +kernel
theorem known3 : (printOf [⟨#[97]⟩, ⟨#[98]⟩] : Int) ≠ printOf [⟨#[97, 98]⟩] := by
  have h : printOf [⟨#[97]⟩, ⟨#[98]⟩] ≠ printOf [⟨#[97, 98]⟩] := by decide +kernel
  omega
theorem mixN_eq (h b : Nat) : ((mixN h b : Nat) : Int) = IntKind.u64.wrap (((h ^^^ b : Nat) : Int) * 1099511628211) := by
  unfold mixN
  rw [IntKind.wrap_u64]
  omega
theorem mixN_int (h : Nat) (z : Int) (hh : h < 18446744073709551616) (h0 : 0 ≤ z) (h1 : z < 256) : IntKind.u64.wrap (bits .xor .u64 (h : Int) z * 1099511628211) = ((mixN h z.toNat : Nat) : Int) := by
  obtain ⟨n, rfl⟩ := Int.eq_ofNat_of_zero_le h0
  rw [xor_u64 h n hh (by omega), Int.toNat_natCast, mixN_eq]
end Go.Proofs.YtelglbblgkhcmaaGreat
