/-
  The walk of CodeInts.
-/
import Derived.Test.YtimhghmnnibajaaCodeJ
import Derived.Test.YtimhghmnnibajaaRel
import Derived.Test.YtimhghmnnibajaaArg
namespace Go.Proofs.Ytimhghmnnibajaa
open Go.RowKit Go.ChangeShapes Go.WideShapes Go.Deep

theorem Wrt.off_ {w : World} {B g gr : Nat} {t : TypeId} {v : Value} {l : List UInt8} (h : Wrt w B g t v l) (hk : w.heap.size ≤ gr) : some g ∉ [some gr] ∧ v.ownBlock ∉ [some gr] := by
  have h1 := h.lt hk
  simp only [List.mem_cons, List.mem_nil_iff, or_false, not_or] at h1 ⊢
  exact ⟨fun e => h1.1 e.symm, fun e => h1.2 e.symm⟩
theorem Wrt.keep {w w' : World} {B g : Nat} {t : TypeId} {v : Value} {l : List UInt8} {M : List (Option Nat)} (h : Wrt w B g t v l) (hM : Writes M w w') (h1 : some g ∉ M) (h2 : v.ownBlock = none ∨ v.ownBlock ∉ M) : Wrt w' B g t v l :=
  ⟨hM.holds h.cell h1, hM.own h.own h2, h.low, h.kind⟩

/-- A slice of the bytes l, out of the reader's block. -/
def SlAt (gr : Nat) (w : World) (l : List UInt8) (v : Value) : Prop := ∃ A c, v = .slice A l.length c ∧ Bytes w w.heap.size A l ∧ ∀ a, A = some a → a.block ≠ gr
theorem SlAt.keep {gr : Nat} {w w' : World} {l : List UInt8} {v : Value} (h : SlAt gr w l v) (hM : Writes [some gr] w w') : SlAt gr w' l v := by
  obtain ⟨A, c, e, hb, hA⟩ := h
  refine ⟨A, c, e, (hM.row hb (Nat.le_refl _) fun _ => ?_).more hM.size, hA⟩
  intro hm
  simp only [List.mem_singleton] at hm
  cases A with
  | none => simp [blk] at hm
  | some a => exact hA a rfl (by simpa [blk] using hm)
theorem SlAt.new {gr : Nat} {w w' : World} {l : List UInt8} {A : Option Addr} {c n : Nat} (hb : Bytes w' w'.heap.size A l) (hN : NewAt w w' A) (hg : gr < w.heap.size) (hn : n = l.length) : SlAt gr w' l (.slice A n c) :=
  ⟨A, c, by rw [hn], hb, fun a e he => by have := (hN a e).1; omega⟩

/-- Where the last line stands: the two writers, the reader in front of its call or behind it. -/
structure CodeAt (wc : World) (g1 g2 gr B1 B2 : Nat) (v1 v2 : Value) (la lb : List UInt8) (b : Bool) (w : World) : Prop where
  m : Writes [some gr] wc w
  x : Wrt w B1 g1 30 v1 la
  y : Wrt w B2 g2 30 v2 lb
  r : Rdr w gr (some (if b then [] else la))
  n1 : some g1 ∉ [some gr] ∧ v1.ownBlock ∉ [some gr]
  n2 : some g2 ∉ [some gr] ∧ v2.ownBlock ∉ [some gr]
section
variable {wc w w' : World} {g1 g2 gr B1 B2 : Nat} {v1 v2 : Value} {la lb : List UInt8} {b : Bool}
theorem CodeAt.below (h : CodeAt wc g1 g2 gr B1 B2 v1 v2 la lb b w) (hb : Below w.heap.size w w') : CodeAt wc g1 g2 gr B1 B2 v1 v2 la lb b w' :=
  ⟨h.m.trans (Writes.of_below hb _), h.x.below hb, h.y.below hb, h.r.below hb, h.n1, h.n2⟩
theorem CodeAt.lt (h : CodeAt wc g1 g2 gr B1 B2 v1 v2 la lb b w) : gr < w.heap.size := by
  obtain ⟨A, n, c, hh, _⟩ := h.r
  exact hh.lt
theorem CodeAt.r0 (h : CodeAt wc g1 g2 gr B1 B2 v1 v2 la lb b w) (hb : b = false) : Rdr w gr (some la) := by
  have := h.r
  rw [hb] at this
  exact this
theorem CodeAt.r1 (h : CodeAt wc g1 g2 gr B1 B2 v1 v2 la lb b w) (hb : b = true) : Rdr w gr (some []) := by
  have := h.r
  rw [hb] at this
  exact this
theorem CodeAt.took (h : CodeAt wc g1 g2 gr B1 B2 v1 v2 la lb b w) (hM : Writes [some gr] w w') (hR : Rdr w' gr (some [])) : CodeAt wc g1 g2 gr B1 B2 v1 v2 la lb true w' :=
  ⟨h.m.trans hM, h.x.keep hM h.n1.1 (.inr h.n1.2), h.y.keep hM h.n2.1 (.inr h.n2.2), hR, h.n1, h.n2⟩
end

set_option maxRecDepth 100000 in
theorem ArgOk.i64 {W : World} {v : Value} (h : ArgOk 2 W v) : ∃ n : Int, v = .int .i64 n ∧ -9223372036854775808 ≤ n ∧ n ≤ 9223372036854775807 := by
  obtain ⟨H, enc, d, p, base, hok, hf⟩ := h
  obtain ⟨n, rfl, _, _, hw⟩ := open_int Try.underlying2 hok hf
  refine ⟨n, rfl, ?_⟩
  simp [Lit.wf, IntKind.min, IntKind.max, IntKind.signed, IntKind.bits] at hw
  omega

set_option maxRecDepth 100000 in
set_option maxHeartbeats 4000000 in
theorem ints_any (W : World) (a b : Int) (ha0 : -9223372036854775808 ≤ a ∧ a ≤ 9223372036854775807) (hb0 : -9223372036854775808 ≤ b ∧ b ≤ 9223372036854775807) :
    Calls Try.prog 3 #[.int .i64 a, .int .i64 b] W fun e w' => e = .returned (.bool true) ∧ Below W.heap.size W w' := by
  have ha := Lib.hid ha0
  have hb := Lib.hid hb0
  obtain ⟨q, hq0, hq2⟩ : ∃ q, (intE a == intE b) = q ∧ (a == b) = q := by
    by_cases e : a = b
    · exact ⟨true, by simp [e], by simp [e]⟩
    · refine ⟨false, ?_, by simpa using e⟩
      rw [beq_eq_false_iff_ne]
      intro h
      exact e (intE_inj a b ha0.1 ha0.2 hb0.1 hb0.2 h)
  have hmono : zigN a ≤ zigN b → (intE a).length ≤ (intE b).length := numE_mono _ _
  have hla0 : (intE a).length ≤ 10 := numE_len10 _ (zigN_lt a ha0.1 ha0.2)
  have hlb0 : (intE b).length ≤ 10 := numE_len10 _ (zigN_lt b hb0.1 hb0.2)
  have hla1 : [] ++ [a].flatMap intE = intE a := by simp
  have hlb1 : [] ++ [b].flatMap intE = intE b := by simp
  obtain ⟨la, hlae⟩ : ∃ la, la = intE a ++ [] := ⟨_, rfl⟩
  have hlae2 : intE a = la := by simp [hlae]
  obtain ⟨lb, hlbe⟩ : ∃ lb, lb = intE b := ⟨_, rfl⟩
  rw [hlae2] at hq0 hmono hla0 hla1
  rw [← hlbe] at hq0 hmono hlb0 hlb1
  clear hlbe hlae2
  have hq1 : ((strV la).toList == (strV lb).toList) = q := by rw [show (strV la).toList = la from ByteArray.toList_mk la, show (strV lb).toList = lb from ByteArray.toList_mk lb]; exact hq0
  have hlae := Lib.hid hlae
  rename_i hlae'
  clear hlae'
  have hla : Hid (la.length ≤ 100000000000) := Lib.hid (by omega)
  have hlb : Hid (lb.length ≤ 100000000000) := Lib.hid (by omega)
  have hla1 := Lib.hid hla1
  rename_i hla1'
  clear hla1'
  have hlb1 := Lib.hid hlb1
  rename_i hlb1'
  clear hlb1'
  have hmono := Lib.hid hmono
  rename_i hmono'
  clear hmono' ha0 hb0
  go_enter Try.func3, Try.ntmps3
  go_wp2_with fail
  refine (known_any _).mono ?_
  rintro e w1 ⟨rfl, hb1⟩
  have hb1 := Lib.hid hb1
  rename_i hb1'
  clear hb1'
  go_wp2_with fail
  refine (newWriter_any _).mono ?_
  rintro e w2 ⟨rfl, rfl⟩
  go_wp2_with fail
  refine (newWriter_any _).mono ?_
  rintro e w3 ⟨rfl, rfl⟩
  obtain ⟨g1, hg1⟩ : ∃ g1, w1.heap.size = g1 := ⟨_, rfl⟩
  have hx0 := Lib.hid ((newWriter_wrt w1).below (below_new (w1.alloc (.cells #[.slice none 0 0] 30)) (.cells #[.slice none 0 0] 30)))
  have hy0 := Lib.hid (newWriter_wrt (w1.alloc (.cells #[.slice none 0 0] 30)))
  have hb3 := Lib.hid ((hb1.out.trans ((below_new w1 (.cells #[.slice none 0 0] 30)).mono hb1.out.size)).trans ((below_new (w1.alloc (.cells #[.slice none 0 0] 30)) (.cells #[.slice none 0 0] 30)).mono (Nat.le_trans hb1.out.size (by simp))))
  have hs2 : (w1.alloc (.cells #[.slice none 0 0] 30)).heap.size = g1 + 1 := by simp [hg1]
  have hs3 : ((w1.alloc (.cells #[.slice none 0 0] 30)).alloc (.cells #[.slice none 0 0] 30)).heap.size = g1 + 2 := by simp [hg1]
  rw [hs2] at hy0
  rw [hg1] at hx0
  have hWg : W.heap.size ≤ g1 := hg1 ▸ hb1.out.size
  generalize (w1.alloc (.cells #[.slice none 0 0] 30)).alloc (.cells #[.slice none 0 0] 30) = w3 at hx0 hy0 hb3 hs3 ⊢
  clear hs2
  have hs3 := Lib.hid hs3
  rename_i hs3'
  go_wp2_with fail
  refine (ints_new w3 g1 g1 30 (.slice none 0 0) [] [a] (g1 + 2) 1 _ hx0.out (by omega) hs3.out rfl rfl (by simpa using ha.out) (by simp)).mono ?_
  rintro e w4 ⟨rfl, v1, hx4, hM4, hF4⟩
  rw [hla1.out] at hx4
  have hy4 := Lib.hid (hy0.out.keep hM4 (by simp [Value.ownBlock]) (.inl rfl))
  have hx4 := Lib.hid hx4
  rename_i hx4'
  have hb4 := Lib.hid (hb3.out.trans (hM4.below (B := W.heap.size) (by omega) (fun k hk => by
    simp [Value.ownBlock] at hk
    omega)))
  have hg4 : g1 + 2 ≤ w4.heap.size := by have := hM4.size; have := hs3.out; omega
  have hv1 : v1.ownBlock ∉ [some (g1 + 1), none] ∨ v1.ownBlock = none := by
    rcases hF4 with h | ⟨k, h, hk⟩
    · exact .inr (by rw [h]; rfl)
    · refine .inl ?_
      rw [h]
      have := hs3.out
      simp
      omega
  have hv1 := Lib.hid hv1
  rename_i hv1'
  clear hv1' hx4' hM4 hF4 hs3 hs3' hx0 hy0 hb3
  go_wp2_with fail
  refine (ints_new w4 (g1 + 1) (g1 + 1) 30 (.slice none 0 0) [] [b] w4.heap.size 1 _ hy4.out (by omega) rfl rfl rfl (by simpa using hb.out) (by simp)).mono ?_
  rintro e w5 ⟨rfl, v2, hy5, hM5, hF5⟩
  rw [hlb1.out] at hy5
  have hy5 := Lib.hid hy5
  rename_i hy5'
  have hx5 := Lib.hid (hx4.out.keep hM5 (by simp [Value.ownBlock]) (hv1.out.elim .inr .inl))
  have hb5 := Lib.hid (hb4.out.trans (hM5.below (B := W.heap.size) (by omega) (fun k hk => by
    simp [Value.ownBlock] at hk
    omega)))
  clear hy5' hM5 hF5 hx4 hy4 hb4 hv1
  go_wp2_with fail
  refine (bytes_any w5 g1 g1 _ v1 la hx5.out hla.out).mono ?_
  rintro e w6 ⟨A6, c6, rfl, hA6, hb6, hN6, hc6⟩
  have hA6 := Lib.hid hA6
  rename_i hA6'
  have hx6 := Lib.hid (hx5.out.below hb6)
  have hy6 := Lib.hid (hy5.out.below hb6)
  have hb6 := Lib.hid (hb5.out.trans (hb6.mono hb5.out.size))
  rename_i hb6'
  clear hb6' hA6' hN6 hx5 hy5 hb5
  go_wp2_with fail
  refine (newReader_any w6 A6 c6 la hA6.out hla.out).mono ?_
  rintro e wc ⟨gr, rfl, hgr, hR7, hb7⟩
  have h0 : Hid (CodeAt wc g1 (g1 + 1) gr g1 (g1 + 1) v1 v2 la lb false wc) := Lib.hid ⟨Writes.refl _ _, hx6.out.below hb7, hy6.out.below hb7, hR7, hx6.out.off_ hgr, hy6.out.off_ hgr⟩
  have hgW : W.heap.size ≤ gr := Nat.le_trans hb6.out.size hgr
  have hBc := Lib.hid (hb6.out.trans (hb7.mono hb6.out.size))
  clear hR7 hb7 hb6 hA6 hx6 hy6 hgr
  by_cases hz : zigN b < zigN a
  · go_wp2_with fail
    -- THE REGION THAT DRAWS ITS ORDER, BY ONE LEXICAL WALK OVER GENERIC VALUES (written by relgen.py)
    refine wp_region_tab ((fun _ v => v = .pointer (some ⟨g1, 0, none⟩)) ::
      (fun _ v => v = .pointer (some ⟨g1, 0, none⟩)) ::
      (fun _ v => v = .pointer (some ⟨g1, 0, none⟩)) ::
      (fun w v => SlAt gr w la v) ::
      (fun _ v => v = .string (strV la)) ::
      (fun _ v => v = .pointer (some ⟨g1 + 1, 0, none⟩)) ::
      (fun _ v => v = .pointer (some ⟨g1 + 1, 0, none⟩)) ::
      (fun _ v => v = .pointer (some ⟨g1 + 1, 0, none⟩)) ::
      (fun w v => SlAt gr w lb v) ::
      (fun _ v => v = .string (strV lb)) ::
      (fun _ v => v = .bool q) ::
      (fun _ v => v = .int .i64 a) ::
      (fun _ v => v = .int .i64 b) ::
      (fun _ v => v = .bool q) ::
      (fun _ v => v = .bool true) ::
      (fun _ v => v = .bool true) ::
      (fun _ v => v = .pointer (some ⟨gr, 0, none⟩)) ::
      (fun _ v => v = .int .i64 a) ::
      (fun _ v => v = .int .i64 a) ::
      (fun _ v => v = .bool true) ::
      (fun _ v => v = .bool true) ::
      (fun _ v => v = .bool true) ::
      (fun _ v => v = .pointer (some ⟨gr, 0, none⟩)) ::
      (fun _ v => v = .int .i64 0) ::
      (fun _ v => v = .bool true) ::
      (fun _ v => v = .bool true) ::
      (fun _ v => v = .bool true) ::
      (fun _ v => v = .int .i64 a) ::
      (fun _ v => v = .int .u64 (zigN a : Nat)) ::
      (fun _ v => v = .int .i64 b) ::
      (fun _ v => v = .int .u64 (zigN b : Nat)) ::
      (fun _ v => v = .bool true) ::
      (fun _ v => v = .bool true) ::
      (fun _ _ => True) ::
      (fun _ _ => True) ::
      (fun _ _ => True) ::
      (fun _ _ => True) ::
      (fun _ _ => True) ::
      (fun _ _ => True) ::
      (fun _ _ => True) ::
      (fun _ _ => True) ::
      (fun _ _ => True) ::
      (fun _ _ => True) ::
      (fun _ _ => True) ::
      (fun _ v => v = .bool true) ::
      (fun _ v => v = .bool true) ::
      (fun _ v => v = .bool true) :: [])
      (⟨[(5, none)], 0, []⟩ :: ⟨[(29, some 0)], 0, []⟩ :: ⟨[(30, some 1)], 0, []⟩ :: ⟨[(31, some 2)], 0, []⟩ :: ⟨[(32, some 3)], 0, []⟩ :: ⟨[(6, none)], 0, []⟩ :: ⟨[(34, some 5)], 0, []⟩ :: ⟨[(35, some 6)], 0, []⟩ :: ⟨[(36, some 7)], 0, []⟩ :: ⟨[(37, some 8)], 0, []⟩ :: ⟨[(33, some 4), (38, some 9)], 0, []⟩ :: ⟨[(0, none)], 0, []⟩ :: ⟨[(1, none)], 0, []⟩ :: ⟨[(40, some 11), (41, some 12)], 0, []⟩ :: ⟨[(39, some 10), (42, some 13)], 0, []⟩ :: ⟨[(43, some 14)], 0, []⟩ :: ⟨[(7, none), (44, some 15)], 44, []⟩ :: ⟨[(45, some 16), (44, some 15)], 44, []⟩ :: ⟨[(0, none), (44, some 15)], 44, []⟩ :: ⟨[(46, some 17), (47, some 18), (44, some 15)], 44, []⟩ :: ⟨[(44, some 15), (48, some 19)], 0, []⟩ :: ⟨[(49, some 20)], 0, []⟩ :: ⟨[(7, none), (50, some 21)], 50, []⟩ :: ⟨[(51, some 22), (50, some 21)], 50, []⟩ :: ⟨[(52, some 23), (50, some 21)], 50, []⟩ :: ⟨[(50, some 21), (53, some 24)], 0, []⟩ :: ⟨[(54, some 25)], 0, []⟩ :: ⟨[(0, none), (55, some 26)], 55, []⟩ :: ⟨[(56, some 27), (55, some 26)], 55, []⟩ :: ⟨[(1, none), (55, some 26)], 55, []⟩ :: ⟨[(58, some 29), (55, some 26)], 55, []⟩ :: ⟨[(57, some 28), (59, some 30), (55, some 26)], 55, []⟩ :: ⟨[(60, some 31), (55, some 26)], 55, []⟩ :: ⟨[(5, none), (61, some 32)], 61, []⟩ :: ⟨[(62, some 33), (61, some 32)], 61, []⟩ :: ⟨[(63, some 34), (61, some 32)], 61, []⟩ :: ⟨[(64, some 35), (61, some 32)], 61, []⟩ :: ⟨[(65, some 36), (61, some 32)], 61, []⟩ :: ⟨[(6, none), (61, some 32)], 61, []⟩ :: ⟨[(67, some 38), (61, some 32)], 61, []⟩ :: ⟨[(68, some 39), (61, some 32)], 61, []⟩ :: ⟨[(69, some 40), (61, some 32)], 61, []⟩ :: ⟨[(70, some 41), (61, some 32)], 61, []⟩ :: ⟨[(66, some 37), (71, some 42), (61, some 32)], 61, []⟩ :: ⟨[(61, some 32), (72, some 43), (55, some 26)], 55, []⟩ :: ⟨[(55, some 26), (73, some 44)], 0, []⟩ :: ⟨[(74, some 45)], 0, []⟩ :: [])
      (none :: none :: none :: none :: some 46 :: none :: none :: none :: none :: none :: none :: none :: none :: none :: none :: none :: none :: none :: none :: none :: none :: none :: none :: none :: none :: none :: none :: none :: none :: some 0 :: some 1 :: some 2 :: some 3 :: some 4 :: some 5 :: some 6 :: some 7 :: some 8 :: some 9 :: some 10 :: some 11 :: some 12 :: some 13 :: some 14 :: some 15 :: some 16 :: some 17 :: some 18 :: some 19 :: some 20 :: some 21 :: some 22 :: some 23 :: some 24 :: some 25 :: some 26 :: some 27 :: some 28 :: some 29 :: some 30 :: some 31 :: some 32 :: some 33 :: some 34 :: some 35 :: some 36 :: some 37 :: some 38 :: some 39 :: some 40 :: some 41 :: some 42 :: some 43 :: some 44 :: some 45 :: [])
      (fun L w' => CodeAt wc g1 (g1 + 1) gr g1 (g1 + 1) v1 v2 la lb (L 17) w' ∧ (L 19 = true → L 17 = true) ∧ (L 20 = true → L 17 = true) ∧ (L 21 = true → L 17 = true)) (fun _ w w' => Writes [some gr] w w') ?mixK ?okK ?tabK ?frK ?inK ?keptK ?startK ?eachK ?finK
    case mixK => kernel_rfl
    case okK => kernel_rfl
    case tabK => kernel_rfl
    case frK => kernel_rfl
    case inK => rfl
    case keptK => exact ⟨fun _ _ _ _ _ _ _ h => h, fun _ _ _ _ _ _ _ h => h, fun _ _ _ _ _ _ _ h => h, fun _ _ _ => fun w w' v hG h => h.keep hG, fun _ _ _ _ _ _ _ h => h, fun _ _ _ _ _ _ _ h => h, fun _ _ _ _ _ _ _ h => h, fun _ _ _ _ _ _ _ h => h, fun _ _ _ => fun w w' v hG h => h.keep hG, fun _ _ _ _ _ _ _ h => h, fun _ _ _ _ _ _ _ h => h, fun _ _ _ _ _ _ _ h => h, fun _ _ _ _ _ _ _ h => h, fun _ _ _ _ _ _ _ h => h, fun _ _ _ _ _ _ _ h => h, fun _ _ _ _ _ _ _ h => h, fun _ _ _ _ _ _ _ h => h, fun _ _ _ _ _ _ _ h => h, fun _ _ _ _ _ _ _ h => h, fun _ _ _ _ _ _ _ h => h, fun _ _ _ _ _ _ _ h => h, fun _ _ _ _ _ _ _ h => h, fun _ _ _ _ _ _ _ h => h, fun _ _ _ _ _ _ _ h => h, fun _ _ _ _ _ _ _ h => h, fun _ _ _ _ _ _ _ h => h, fun _ _ _ _ _ _ _ h => h, fun _ _ _ _ _ _ _ h => h, fun _ _ _ _ _ _ _ h => h, fun _ _ _ _ _ _ _ h => h, fun _ _ _ _ _ _ _ h => h, fun _ _ _ _ _ _ _ h => h, fun _ _ _ _ _ _ _ h => h, fun _ _ _ => fun _ _ _ _ h => h, fun _ _ _ => fun _ _ _ _ h => h, fun _ _ _ => fun _ _ _ _ h => h, fun _ _ _ => fun _ _ _ _ h => h, fun _ _ _ => fun _ _ _ _ h => h, fun _ _ _ => fun _ _ _ _ h => h, fun _ _ _ => fun _ _ _ _ h => h, fun _ _ _ => fun _ _ _ _ h => h, fun _ _ _ => fun _ _ _ _ h => h, fun _ _ _ => fun _ _ _ _ h => h, fun _ _ _ => fun _ _ _ _ h => h, fun _ _ _ _ _ _ _ h => h, fun _ _ _ _ _ _ _ h => h, fun _ _ _ _ _ _ _ h => h, trivial⟩
    case startK => exact ⟨h0.out.below (Below.refl _ _).drew, fun h => by simp at h, fun h => by simp at h, fun h => by simp at h⟩
    case eachK =>
      refine ⟨?_, ?_, ?_, ?_, ?_, ?_, ?_, ?_, ?_, ?_, ?_, ?_, ?_, ?_, ?_, ?_, ?_, ?_, ?_, ?_, ?_, ?_, ?_, ?_, ?_, ?_, ?_, ?_, ?_, ?_, ?_, ?_, ?_, ?_, ?_, ?_, ?_, ?_, ?_, ?_, ?_, ?_, ?_, ?_, ?_, ?_, ?_, trivial⟩
      -- 0: slot 29 := move t5
      · intro w L f hC hLi hLd hLn hF
        obtain ⟨d5, _⟩ := hF
        have d5 : f 5 = .pointer (some ⟨g1, 0, none⟩) := d5
        refine Step2.live rfl ?_
        exact relUpon_value (v := f 5) rfl (hC) (Writes.refl _ _) d5
      -- 1: slot 30 := nilCheck t29
      · intro w L f hC hLi hLd hLn hF
        obtain ⟨d29, _⟩ := hF
        have d29 : f 29 = .pointer (some ⟨g1, 0, none⟩) := d29
        refine Step2.live rfl ?_
        have ev : ∀ t, evalOf f (.tmp t) = f t := fun _ => rfl
        have ec : ∀ c, evalOf f (.const c) = c := fun _ => rfl
        refine relUpon_value ?_ (hC) (Writes.refl _ _) rfl
        go_simp
      -- 2: slot 31 := fieldAddr 30 t30 0
      · intro w L f hC hLi hLd hLn hF
        obtain ⟨d30, _⟩ := hF
        have d30 : f 30 = .pointer (some ⟨g1, 0, none⟩) := d30
        refine Step2.live rfl ?_
        have ev : ∀ t, evalOf f (.tmp t) = f t := fun _ => rfl
        have ec : ∀ c, evalOf f (.const c) = c := fun _ => rfl
        refine relUpon_value ?_ (hC) (Writes.refl _ _) rfl
        go_simp
      -- 3: slot 32 := call { value (Operand.func 18), args := #[t31], argTypes := #[28] }
      · intro w L f hC hLi hLd hLn hF
        obtain ⟨d31, _⟩ := hF
        have d31 : f 31 = .pointer (some ⟨g1, 0, none⟩) := d31
        refine Step2.live rfl ?_
        have ev : ∀ t, evalOf f (.tmp t) = f t := fun _ => rfl
        have ec : ∀ c, evalOf f (.const c) = c := fun _ => rfl
        have ef : ∀ g, evalOf f (.func g) = .func (.func g) #[] #[] := fun _ => rfl
        refine relUpon_call (f := 18) (args := #[.pointer (some ⟨g1, 0, none⟩)]) (w := w) (by go_simp) (bytes_any w g1 g1 _ v1 la hC.1.x hla.out) ?_
        rintro e w1 ⟨A', c', he, hb, hB, hN, _⟩
        exact ⟨_, he, ⟨hC.1.below hB, hC.2⟩, Writes.of_below hB _, SlAt.new hb hN hC.1.lt rfl⟩
      -- 4: slot 33 := convert 26 9 t32
      · intro w L f hC hLi hLd hLn hF
        obtain ⟨d32, _⟩ := hF
        refine Step2.live rfl ?_
        obtain ⟨A', c', e0, hs, _⟩ := d32
        have kv := run_text (P := Try.prog) w 26 5 Try.underlying26 Try.underlying5 A' la.length c' la rfl hs 9 Try.underlying9
        have ev : ∀ t, evalOf f (.tmp t) = f t := fun _ => rfl
        have ec : ∀ c, evalOf f (.const c) = c := fun _ => rfl
        have ef : ∀ g, evalOf f (.func g) = .func (.func g) #[] #[] := fun _ => rfl
        refine relUpon_value ?_ hC (Writes.refl _ _) rfl
        go_simp
      -- 5: slot 34 := move t6
      · intro w L f hC hLi hLd hLn hF
        obtain ⟨d6, _⟩ := hF
        have d6 : f 6 = .pointer (some ⟨g1 + 1, 0, none⟩) := d6
        refine Step2.live rfl ?_
        exact relUpon_value (v := f 6) rfl (hC) (Writes.refl _ _) d6
      -- 6: slot 35 := nilCheck t34
      · intro w L f hC hLi hLd hLn hF
        obtain ⟨d34, _⟩ := hF
        have d34 : f 34 = .pointer (some ⟨g1 + 1, 0, none⟩) := d34
        refine Step2.live rfl ?_
        have ev : ∀ t, evalOf f (.tmp t) = f t := fun _ => rfl
        have ec : ∀ c, evalOf f (.const c) = c := fun _ => rfl
        refine relUpon_value ?_ (hC) (Writes.refl _ _) rfl
        go_simp
      -- 7: slot 36 := fieldAddr 30 t35 0
      · intro w L f hC hLi hLd hLn hF
        obtain ⟨d35, _⟩ := hF
        have d35 : f 35 = .pointer (some ⟨g1 + 1, 0, none⟩) := d35
        refine Step2.live rfl ?_
        have ev : ∀ t, evalOf f (.tmp t) = f t := fun _ => rfl
        have ec : ∀ c, evalOf f (.const c) = c := fun _ => rfl
        refine relUpon_value ?_ (hC) (Writes.refl _ _) rfl
        go_simp
      -- 8: slot 37 := call { value (Operand.func 18), args := #[t36], argTypes := #[28] }
      · intro w L f hC hLi hLd hLn hF
        obtain ⟨d36, _⟩ := hF
        have d36 : f 36 = .pointer (some ⟨g1 + 1, 0, none⟩) := d36
        refine Step2.live rfl ?_
        have ev : ∀ t, evalOf f (.tmp t) = f t := fun _ => rfl
        have ec : ∀ c, evalOf f (.const c) = c := fun _ => rfl
        have ef : ∀ g, evalOf f (.func g) = .func (.func g) #[] #[] := fun _ => rfl
        refine relUpon_call (f := 18) (args := #[.pointer (some ⟨g1 + 1, 0, none⟩)]) (w := w) (by go_simp) (bytes_any w (g1 + 1) (g1 + 1) _ v2 lb hC.1.y hlb.out) ?_
        rintro e w1 ⟨A', c', he, hb, hB, hN, _⟩
        exact ⟨_, he, ⟨hC.1.below hB, hC.2⟩, Writes.of_below hB _, SlAt.new hb hN hC.1.lt rfl⟩
      -- 9: slot 38 := convert 26 9 t37
      · intro w L f hC hLi hLd hLn hF
        obtain ⟨d37, _⟩ := hF
        refine Step2.live rfl ?_
        obtain ⟨A', c', e0, hs, _⟩ := d37
        have kv := run_text (P := Try.prog) w 26 5 Try.underlying26 Try.underlying5 A' lb.length c' lb rfl hs 9 Try.underlying9
        have ev : ∀ t, evalOf f (.tmp t) = f t := fun _ => rfl
        have ec : ∀ c, evalOf f (.const c) = c := fun _ => rfl
        have ef : ∀ g, evalOf f (.func g) = .func (.func g) #[] #[] := fun _ => rfl
        refine relUpon_value ?_ hC (Writes.refl _ _) rfl
        go_simp
      -- 10: slot 39 := binOp BinOp.eql 9 t33 t38 9
      · intro w L f hC hLi hLd hLn hF
        obtain ⟨d33, d38, _⟩ := hF
        have d33 : f 33 = .string (strV la) := d33
        have d38 : f 38 = .string (strV lb) := d38
        refine Step2.live rfl ?_
        have ev : ∀ t, evalOf f (.tmp t) = f t := fun _ => rfl
        have ec : ∀ c, evalOf f (.const c) = c := fun _ => rfl
        refine relUpon_value ?_ (hC) (Writes.refl _ _) rfl
        go_simp
      -- 11: slot 40 := move t0
      · intro w L f hC hLi hLd hLn hF
        obtain ⟨d0, _⟩ := hF
        have d0 : f 0 = .int .i64 a := d0
        refine Step2.live rfl ?_
        exact relUpon_value (v := f 0) rfl (hC) (Writes.refl _ _) d0
      -- 12: slot 41 := move t1
      · intro w L f hC hLi hLd hLn hF
        obtain ⟨d1, _⟩ := hF
        have d1 : f 1 = .int .i64 b := d1
        refine Step2.live rfl ?_
        exact relUpon_value (v := f 1) rfl (hC) (Writes.refl _ _) d1
      -- 13: slot 42 := binOp BinOp.eql 2 t40 t41 2
      · intro w L f hC hLi hLd hLn hF
        obtain ⟨d40, d41, _⟩ := hF
        have d40 : f 40 = .int .i64 a := d40
        have d41 : f 41 = .int .i64 b := d41
        refine Step2.live rfl ?_
        have ev : ∀ t, evalOf f (.tmp t) = f t := fun _ => rfl
        have ec : ∀ c, evalOf f (.const c) = c := fun _ => rfl
        refine relUpon_value ?_ (hC) (Writes.refl _ _) rfl
        go_simp
      -- 14: slot 43 := binOp BinOp.eql 4 t39 t42 4
      · intro w L f hC hLi hLd hLn hF
        obtain ⟨d39, d42, _⟩ := hF
        have d39 : f 39 = .bool q := d39
        have d42 : f 42 = .bool q := d42
        refine Step2.live rfl ?_
        have ev : ∀ t, evalOf f (.tmp t) = f t := fun _ => rfl
        have ec : ∀ c, evalOf f (.const c) = c := fun _ => rfl
        refine relUpon_value ?_ (hC) (Writes.refl _ _) rfl
        go_simp
      -- 15: slot 44 := move t43
      · intro w L f hC hLi hLd hLn hF
        obtain ⟨d43, _⟩ := hF
        have d43 : f 43 = .bool true := d43
        refine Step2.live rfl ?_
        exact relUpon_value (v := f 43) rfl (hC) (Writes.refl _ _) d43
      -- 16: slot 45 := move t7
      · intro w L f hC hLi hLd hLn hF
        obtain ⟨d7, d44, _⟩ := hF
        have d7 : f 7 = .pointer (some ⟨gr, 0, none⟩) := d7
        have d44 : f 44 = .bool true := d44
        refine Step2.live (show wantedBy _ (f 44) = true by rw [d44]; rfl) ?_
        exact relUpon_value (v := f 7) rfl (hC) (Writes.refl _ _) d7
      -- 17: slot 46 := call { value (Operand.func 19), args := #[t45], argTypes := #[31] }
      · intro w L f hC hLi hLd hLn hF
        obtain ⟨d45, d44, _⟩ := hF
        have d45 : f 45 = .pointer (some ⟨gr, 0, none⟩) := d45
        have d44 : f 44 = .bool true := d44
        refine Step2.live (show wantedBy _ (f 44) = true by rw [d44]; rfl) ?_
        have ev : ∀ t, evalOf f (.tmp t) = f t := fun _ => rfl
        have ec : ∀ c, evalOf f (.const c) = c := fun _ => rfl
        have ef : ∀ g, evalOf f (.func g) = .func (.func g) #[] #[] := fun _ => rfl
        refine relUpon_call (f := 19) (args := #[.pointer (some ⟨gr, 0, none⟩)]) (w := w) (by go_simp) (rInt_any w gr _ (hC.1.r0 hLi)) ?_
        intro e w1 h6
        rw [hlae.out] at h6
        obtain ⟨he, hR, hM⟩ := Took.int h6 ha.out.1 ha.out.2
        exact ⟨_, he, ⟨hC.1.took hM hR, fun _ => rfl, fun _ => rfl, fun _ => rfl⟩, hM, rfl⟩
      -- 18: slot 47 := move t0
      · intro w L f hC hLi hLd hLn hF
        obtain ⟨d0, d44, _⟩ := hF
        have d0 : f 0 = .int .i64 a := d0
        have d44 : f 44 = .bool true := d44
        refine Step2.live (show wantedBy _ (f 44) = true by rw [d44]; rfl) ?_
        exact relUpon_value (v := f 0) rfl (hC) (Writes.refl _ _) d0
      -- 19: slot 48 := binOp BinOp.eql 2 t46 t47 2
      · intro w L f hC hLi hLd hLn hF
        obtain ⟨d46, d47, d44, _⟩ := hF
        have d46 : f 46 = .int .i64 a := d46
        have d47 : f 47 = .int .i64 a := d47
        have d44 : f 44 = .bool true := d44
        refine Step2.live (show wantedBy _ (f 44) = true by rw [d44]; rfl) ?_
        have ev : ∀ t, evalOf f (.tmp t) = f t := fun _ => rfl
        have ec : ∀ c, evalOf f (.const c) = c := fun _ => rfl
        have ef : ∀ g, evalOf f (.func g) = .func (.func g) #[] #[] := fun _ => rfl
        refine relUpon_value ?_ ⟨hC.1, fun _ => hLd 17 (by decide), hC.2.2⟩ (Writes.refl _ _) rfl
        go_simp
      -- 20: slot 49 := pick t44 t48 (const (Value.bool false))
      · intro w L f hC hLi hLd hLn hF
        obtain ⟨d44, d48, _⟩ := hF
        have d44 : f 44 = .bool true := d44
        have d48 : f 48 = .bool true := d48
        refine Step2.live rfl ?_
        have ev : ∀ t, evalOf f (.tmp t) = f t := fun _ => rfl
        have ec : ∀ c, evalOf f (.const c) = c := fun _ => rfl
        have ef : ∀ g, evalOf f (.func g) = .func (.func g) #[] #[] := fun _ => rfl
        refine relUpon_value ?_ ⟨hC.1, hC.2.1, fun _ => hC.2.1 (hLd 19 (by decide)), hC.2.2.2⟩ (Writes.refl _ _) rfl
        go_simp
      -- 21: slot 50 := move t49
      · intro w L f hC hLi hLd hLn hF
        obtain ⟨d49, _⟩ := hF
        have d49 : f 49 = .bool true := d49
        refine Step2.live rfl ?_
        exact relUpon_value (v := f 49) rfl ⟨hC.1, hC.2.1, hC.2.2.1, fun _ => hC.2.2.1 (hLd 20 (by decide))⟩ (Writes.refl _ _) d49
      -- 22: slot 51 := move t7
      · intro w L f hC hLi hLd hLn hF
        obtain ⟨d7, d50, _⟩ := hF
        have d7 : f 7 = .pointer (some ⟨gr, 0, none⟩) := d7
        have d50 : f 50 = .bool true := d50
        refine Step2.live (show wantedBy _ (f 50) = true by rw [d50]; rfl) ?_
        exact relUpon_value (v := f 7) rfl (hC) (Writes.refl _ _) d7
      -- 23: slot 52 := call { value (Operand.func 20), args := #[t51], argTypes := #[31] }
      · intro w L f hC hLi hLd hLn hF
        obtain ⟨d51, d50, _⟩ := hF
        have d51 : f 51 = .pointer (some ⟨gr, 0, none⟩) := d51
        have d50 : f 50 = .bool true := d50
        refine Step2.live (show wantedBy _ (f 50) = true by rw [d50]; rfl) ?_
        have ev : ∀ t, evalOf f (.tmp t) = f t := fun _ => rfl
        have ec : ∀ c, evalOf f (.const c) = c := fun _ => rfl
        have ef : ∀ g, evalOf f (.func g) = .func (.func g) #[] #[] := fun _ => rfl
        refine relUpon_call (f := 20) (args := #[.pointer (some ⟨gr, 0, none⟩)]) (w := w) (by go_simp) (done_any w gr _ (hC.1.r1 (hC.2.2.2 (hLd 21 (by decide))))) ?_
        rintro e w1 ⟨he, rfl⟩
        exact ⟨_, he, hC, Writes.refl _ _, rfl⟩
      -- 24: slot 53 := binOp BinOp.eql 3 t52 (const (0:i64)) 3
      · intro w L f hC hLi hLd hLn hF
        obtain ⟨d52, d50, _⟩ := hF
        have d52 : f 52 = .int .i64 0 := d52
        have d50 : f 50 = .bool true := d50
        refine Step2.live (show wantedBy _ (f 50) = true by rw [d50]; rfl) ?_
        have ev : ∀ t, evalOf f (.tmp t) = f t := fun _ => rfl
        have ec : ∀ c, evalOf f (.const c) = c := fun _ => rfl
        refine relUpon_value ?_ (hC) (Writes.refl _ _) rfl
        go_simp
      -- 25: slot 54 := pick t50 t53 (const (Value.bool false))
      · intro w L f hC hLi hLd hLn hF
        obtain ⟨d50, d53, _⟩ := hF
        have d50 : f 50 = .bool true := d50
        have d53 : f 53 = .bool true := d53
        refine Step2.live rfl ?_
        have ev : ∀ t, evalOf f (.tmp t) = f t := fun _ => rfl
        have ec : ∀ c, evalOf f (.const c) = c := fun _ => rfl
        refine relUpon_value ?_ (hC) (Writes.refl _ _) rfl
        go_simp
      -- 26: slot 55 := move t54
      · intro w L f hC hLi hLd hLn hF
        obtain ⟨d54, _⟩ := hF
        have d54 : f 54 = .bool true := d54
        refine Step2.live rfl ?_
        exact relUpon_value (v := f 54) rfl (hC) (Writes.refl _ _) d54
      -- 27: slot 56 := move t0
      · intro w L f hC hLi hLd hLn hF
        obtain ⟨d0, d55, _⟩ := hF
        have d0 : f 0 = .int .i64 a := d0
        have d55 : f 55 = .bool true := d55
        refine Step2.live (show wantedBy _ (f 55) = true by rw [d55]; rfl) ?_
        exact relUpon_value (v := f 0) rfl (hC) (Writes.refl _ _) d0
      -- 28: slot 57 := call { value (Operand.func 21), args := #[t56], argTypes := #[2] }
      · intro w L f hC hLi hLd hLn hF
        obtain ⟨d56, d55, _⟩ := hF
        have d56 : f 56 = .int .i64 a := d56
        have d55 : f 55 = .bool true := d55
        refine Step2.live (show wantedBy _ (f 55) = true by rw [d55]; rfl) ?_
        have ev : ∀ t, evalOf f (.tmp t) = f t := fun _ => rfl
        have ec : ∀ c, evalOf f (.const c) = c := fun _ => rfl
        have ef : ∀ g, evalOf f (.func g) = .func (.func g) #[] #[] := fun _ => rfl
        refine relUpon_call (f := 21) (args := #[.int .i64 a]) (w := w) (by go_simp) (zig_any w a ha.out.1 ha.out.2) ?_
        rintro e w1 ⟨he, rfl⟩
        exact ⟨_, he, hC, Writes.refl _ _, rfl⟩
      -- 29: slot 58 := move t1
      · intro w L f hC hLi hLd hLn hF
        obtain ⟨d1, d55, _⟩ := hF
        have d1 : f 1 = .int .i64 b := d1
        have d55 : f 55 = .bool true := d55
        refine Step2.live (show wantedBy _ (f 55) = true by rw [d55]; rfl) ?_
        exact relUpon_value (v := f 1) rfl (hC) (Writes.refl _ _) d1
      -- 30: slot 59 := call { value (Operand.func 21), args := #[t58], argTypes := #[2] }
      · intro w L f hC hLi hLd hLn hF
        obtain ⟨d58, d55, _⟩ := hF
        have d58 : f 58 = .int .i64 b := d58
        have d55 : f 55 = .bool true := d55
        refine Step2.live (show wantedBy _ (f 55) = true by rw [d55]; rfl) ?_
        have ev : ∀ t, evalOf f (.tmp t) = f t := fun _ => rfl
        have ec : ∀ c, evalOf f (.const c) = c := fun _ => rfl
        have ef : ∀ g, evalOf f (.func g) = .func (.func g) #[] #[] := fun _ => rfl
        refine relUpon_call (f := 21) (args := #[.int .i64 b]) (w := w) (by go_simp) (zig_any w b hb.out.1 hb.out.2) ?_
        rintro e w1 ⟨he, rfl⟩
        exact ⟨_, he, hC, Writes.refl _ _, rfl⟩
      -- 31: slot 60 := binOp BinOp.gtr 37 t57 t59 37
      · intro w L f hC hLi hLd hLn hF
        obtain ⟨d57, d59, d55, _⟩ := hF
        have d57 : f 57 = .int .u64 (zigN a : Nat) := d57
        have d59 : f 59 = .int .u64 (zigN b : Nat) := d59
        have d55 : f 55 = .bool true := d55
        refine Step2.live (show wantedBy _ (f 55) = true by rw [d55]; rfl) ?_
        have ev : ∀ t, evalOf f (.tmp t) = f t := fun _ => rfl
        have ec : ∀ c, evalOf f (.const c) = c := fun _ => rfl
        refine relUpon_value ?_ (hC) (Writes.refl _ _) rfl
        go_simp
      -- 32: slot 61 := move t60
      · intro w L f hC hLi hLd hLn hF
        obtain ⟨d60, d55, _⟩ := hF
        have d60 : f 60 = .bool true := d60
        have d55 : f 55 = .bool true := d55
        refine Step2.live (show wantedBy _ (f 55) = true by rw [d55]; rfl) ?_
        exact relUpon_value (v := f 60) rfl (hC) (Writes.refl _ _) d60
      -- 33: slot 62 := move t5
      · intro w L f hC hLi hLd hLn hF
        obtain ⟨d5, d61, _⟩ := hF
        have d5 : f 5 = .pointer (some ⟨g1, 0, none⟩) := d5
        have d61 : f 61 = .bool true := d61
        refine Step2.dead (show wantedBy _ (f 61) = false by rw [d61]; rfl) (hC) ?_
        trivial
      -- 34: slot 63 := nilCheck t62
      · intro w L f hC hLi hLd hLn hF
        obtain ⟨d62, d61, _⟩ := hF
        have d61 : f 61 = .bool true := d61
        refine Step2.dead (show wantedBy _ (f 61) = false by rw [d61]; rfl) (hC) ?_
        trivial
      -- 35: slot 64 := fieldAddr 30 t63 0
      · intro w L f hC hLi hLd hLn hF
        obtain ⟨d63, d61, _⟩ := hF
        have d61 : f 61 = .bool true := d61
        refine Step2.dead (show wantedBy _ (f 61) = false by rw [d61]; rfl) (hC) ?_
        trivial
      -- 36: slot 65 := call { value (Operand.func 18), args := #[t64], argTypes := #[28] }
      · intro w L f hC hLi hLd hLn hF
        obtain ⟨d64, d61, _⟩ := hF
        have d61 : f 61 = .bool true := d61
        refine Step2.dead (show wantedBy _ (f 61) = false by rw [d61]; rfl) (hC) ?_
        trivial
      -- 37: slot 66 := call { builtin len, args := #[t65], argTypes := #[26] }
      · intro w L f hC hLi hLd hLn hF
        obtain ⟨d65, d61, _⟩ := hF
        have d61 : f 61 = .bool true := d61
        refine Step2.dead (show wantedBy _ (f 61) = false by rw [d61]; rfl) (hC) ?_
        trivial
      -- 38: slot 67 := move t6
      · intro w L f hC hLi hLd hLn hF
        obtain ⟨d6, d61, _⟩ := hF
        have d6 : f 6 = .pointer (some ⟨g1 + 1, 0, none⟩) := d6
        have d61 : f 61 = .bool true := d61
        refine Step2.dead (show wantedBy _ (f 61) = false by rw [d61]; rfl) (hC) ?_
        trivial
      -- 39: slot 68 := nilCheck t67
      · intro w L f hC hLi hLd hLn hF
        obtain ⟨d67, d61, _⟩ := hF
        have d61 : f 61 = .bool true := d61
        refine Step2.dead (show wantedBy _ (f 61) = false by rw [d61]; rfl) (hC) ?_
        trivial
      -- 40: slot 69 := fieldAddr 30 t68 0
      · intro w L f hC hLi hLd hLn hF
        obtain ⟨d68, d61, _⟩ := hF
        have d61 : f 61 = .bool true := d61
        refine Step2.dead (show wantedBy _ (f 61) = false by rw [d61]; rfl) (hC) ?_
        trivial
      -- 41: slot 70 := call { value (Operand.func 18), args := #[t69], argTypes := #[28] }
      · intro w L f hC hLi hLd hLn hF
        obtain ⟨d69, d61, _⟩ := hF
        have d61 : f 61 = .bool true := d61
        refine Step2.dead (show wantedBy _ (f 61) = false by rw [d61]; rfl) (hC) ?_
        trivial
      -- 42: slot 71 := call { builtin len, args := #[t70], argTypes := #[26] }
      · intro w L f hC hLi hLd hLn hF
        obtain ⟨d70, d61, _⟩ := hF
        have d61 : f 61 = .bool true := d61
        refine Step2.dead (show wantedBy _ (f 61) = false by rw [d61]; rfl) (hC) ?_
        trivial
      -- 43: slot 72 := binOp BinOp.leq 3 t66 t71 3
      · intro w L f hC hLi hLd hLn hF
        obtain ⟨d66, d71, d61, _⟩ := hF
        have d61 : f 61 = .bool true := d61
        refine Step2.dead (show wantedBy _ (f 61) = false by rw [d61]; rfl) (hC) ?_
        trivial
      -- 44: slot 73 := pick t61 (const (Value.bool true)) t72
      · intro w L f hC hLi hLd hLn hF
        obtain ⟨d61, d72, d55, _⟩ := hF
        have d61 : f 61 = .bool true := d61
        have d55 : f 55 = .bool true := d55
        refine Step2.live (show wantedBy _ (f 55) = true by rw [d55]; rfl) ?_
        have ev : ∀ t, evalOf f (.tmp t) = f t := fun _ => rfl
        have ec : ∀ c, evalOf f (.const c) = c := fun _ => rfl
        refine relUpon_value ?_ (hC) (Writes.refl _ _) rfl
        go_simp
      -- 45: slot 74 := pick t55 t73 (const (Value.bool false))
      · intro w L f hC hLi hLd hLn hF
        obtain ⟨d55, d73, _⟩ := hF
        have d55 : f 55 = .bool true := d55
        have d73 : f 73 = .bool true := d73
        refine Step2.live rfl ?_
        have ev : ∀ t, evalOf f (.tmp t) = f t := fun _ => rfl
        have ec : ∀ c, evalOf f (.const c) = c := fun _ => rfl
        refine relUpon_value ?_ (hC) (Writes.refl _ _) rfl
        go_simp
      -- 46: slot 4 := assign t74
      · intro w L f hC hLi hLd hLn hF
        obtain ⟨d74, _⟩ := hF
        have d74 : f 74 = .bool true := d74
        refine Step2.live rfl ?_
        exact relUpon_value (v := f 74) rfl (hC) (Writes.refl _ _) d74
    case finK =>
      intro x w' hC hV
      have e74 : x 46 = .bool true := hV 46 _ rfl rfl
      simp only [framed]
      rw [e74]
      clear hV
      go_wp2
      go_ret
      exact ⟨rfl, hBc.out.trans (hC.1.m.below hBc.out.size (fun k hk => by simp at hk; omega))⟩

  · have hz' := Nat.le_of_not_lt hz
    have hll := hmono.out hz'
    go_wp2_with fail
    -- THE REGION THAT DRAWS ITS ORDER, BY ONE LEXICAL WALK OVER GENERIC VALUES (written by relgen.py)
    refine wp_region_tab ((fun _ v => v = .pointer (some ⟨g1, 0, none⟩)) ::
      (fun _ v => v = .pointer (some ⟨g1, 0, none⟩)) ::
      (fun _ v => v = .pointer (some ⟨g1, 0, none⟩)) ::
      (fun w v => SlAt gr w la v) ::
      (fun _ v => v = .string (strV la)) ::
      (fun _ v => v = .pointer (some ⟨g1 + 1, 0, none⟩)) ::
      (fun _ v => v = .pointer (some ⟨g1 + 1, 0, none⟩)) ::
      (fun _ v => v = .pointer (some ⟨g1 + 1, 0, none⟩)) ::
      (fun w v => SlAt gr w lb v) ::
      (fun _ v => v = .string (strV lb)) ::
      (fun _ v => v = .bool q) ::
      (fun _ v => v = .int .i64 a) ::
      (fun _ v => v = .int .i64 b) ::
      (fun _ v => v = .bool q) ::
      (fun _ v => v = .bool true) ::
      (fun _ v => v = .bool true) ::
      (fun _ v => v = .pointer (some ⟨gr, 0, none⟩)) ::
      (fun _ v => v = .int .i64 a) ::
      (fun _ v => v = .int .i64 a) ::
      (fun _ v => v = .bool true) ::
      (fun _ v => v = .bool true) ::
      (fun _ v => v = .bool true) ::
      (fun _ v => v = .pointer (some ⟨gr, 0, none⟩)) ::
      (fun _ v => v = .int .i64 0) ::
      (fun _ v => v = .bool true) ::
      (fun _ v => v = .bool true) ::
      (fun _ v => v = .bool true) ::
      (fun _ v => v = .int .i64 a) ::
      (fun _ v => v = .int .u64 (zigN a : Nat)) ::
      (fun _ v => v = .int .i64 b) ::
      (fun _ v => v = .int .u64 (zigN b : Nat)) ::
      (fun _ v => v = .bool false) ::
      (fun _ v => v = .bool false) ::
      (fun _ v => v = .pointer (some ⟨g1, 0, none⟩)) ::
      (fun _ v => v = .pointer (some ⟨g1, 0, none⟩)) ::
      (fun _ v => v = .pointer (some ⟨g1, 0, none⟩)) ::
      (fun w v => SlAt gr w la v) ::
      (fun _ v => v = .int .i64 (la.length : Nat)) ::
      (fun _ v => v = .pointer (some ⟨g1 + 1, 0, none⟩)) ::
      (fun _ v => v = .pointer (some ⟨g1 + 1, 0, none⟩)) ::
      (fun _ v => v = .pointer (some ⟨g1 + 1, 0, none⟩)) ::
      (fun w v => SlAt gr w lb v) ::
      (fun _ v => v = .int .i64 (lb.length : Nat)) ::
      (fun _ v => v = .bool true) ::
      (fun _ v => v = .bool true) ::
      (fun _ v => v = .bool true) ::
      (fun _ v => v = .bool true) :: [])
      (⟨[(5, none)], 0, []⟩ :: ⟨[(29, some 0)], 0, []⟩ :: ⟨[(30, some 1)], 0, []⟩ :: ⟨[(31, some 2)], 0, []⟩ :: ⟨[(32, some 3)], 0, []⟩ :: ⟨[(6, none)], 0, []⟩ :: ⟨[(34, some 5)], 0, []⟩ :: ⟨[(35, some 6)], 0, []⟩ :: ⟨[(36, some 7)], 0, []⟩ :: ⟨[(37, some 8)], 0, []⟩ :: ⟨[(33, some 4), (38, some 9)], 0, []⟩ :: ⟨[(0, none)], 0, []⟩ :: ⟨[(1, none)], 0, []⟩ :: ⟨[(40, some 11), (41, some 12)], 0, []⟩ :: ⟨[(39, some 10), (42, some 13)], 0, []⟩ :: ⟨[(43, some 14)], 0, []⟩ :: ⟨[(7, none), (44, some 15)], 44, []⟩ :: ⟨[(45, some 16), (44, some 15)], 44, []⟩ :: ⟨[(0, none), (44, some 15)], 44, []⟩ :: ⟨[(46, some 17), (47, some 18), (44, some 15)], 44, []⟩ :: ⟨[(44, some 15), (48, some 19)], 0, []⟩ :: ⟨[(49, some 20)], 0, []⟩ :: ⟨[(7, none), (50, some 21)], 50, []⟩ :: ⟨[(51, some 22), (50, some 21)], 50, []⟩ :: ⟨[(52, some 23), (50, some 21)], 50, []⟩ :: ⟨[(50, some 21), (53, some 24)], 0, []⟩ :: ⟨[(54, some 25)], 0, []⟩ :: ⟨[(0, none), (55, some 26)], 55, []⟩ :: ⟨[(56, some 27), (55, some 26)], 55, []⟩ :: ⟨[(1, none), (55, some 26)], 55, []⟩ :: ⟨[(58, some 29), (55, some 26)], 55, []⟩ :: ⟨[(57, some 28), (59, some 30), (55, some 26)], 55, []⟩ :: ⟨[(60, some 31), (55, some 26)], 55, []⟩ :: ⟨[(5, none), (61, some 32)], 61, []⟩ :: ⟨[(62, some 33), (61, some 32)], 61, []⟩ :: ⟨[(63, some 34), (61, some 32)], 61, []⟩ :: ⟨[(64, some 35), (61, some 32)], 61, []⟩ :: ⟨[(65, some 36), (61, some 32)], 61, []⟩ :: ⟨[(6, none), (61, some 32)], 61, []⟩ :: ⟨[(67, some 38), (61, some 32)], 61, []⟩ :: ⟨[(68, some 39), (61, some 32)], 61, []⟩ :: ⟨[(69, some 40), (61, some 32)], 61, []⟩ :: ⟨[(70, some 41), (61, some 32)], 61, []⟩ :: ⟨[(66, some 37), (71, some 42), (61, some 32)], 61, []⟩ :: ⟨[(61, some 32), (72, some 43), (55, some 26)], 55, []⟩ :: ⟨[(55, some 26), (73, some 44)], 0, []⟩ :: ⟨[(74, some 45)], 0, []⟩ :: [])
      (none :: none :: none :: none :: some 46 :: none :: none :: none :: none :: none :: none :: none :: none :: none :: none :: none :: none :: none :: none :: none :: none :: none :: none :: none :: none :: none :: none :: none :: none :: some 0 :: some 1 :: some 2 :: some 3 :: some 4 :: some 5 :: some 6 :: some 7 :: some 8 :: some 9 :: some 10 :: some 11 :: some 12 :: some 13 :: some 14 :: some 15 :: some 16 :: some 17 :: some 18 :: some 19 :: some 20 :: some 21 :: some 22 :: some 23 :: some 24 :: some 25 :: some 26 :: some 27 :: some 28 :: some 29 :: some 30 :: some 31 :: some 32 :: some 33 :: some 34 :: some 35 :: some 36 :: some 37 :: some 38 :: some 39 :: some 40 :: some 41 :: some 42 :: some 43 :: some 44 :: some 45 :: [])
      (fun L w' => CodeAt wc g1 (g1 + 1) gr g1 (g1 + 1) v1 v2 la lb (L 17) w' ∧ (L 19 = true → L 17 = true) ∧ (L 20 = true → L 17 = true) ∧ (L 21 = true → L 17 = true)) (fun _ w w' => Writes [some gr] w w') ?mixK ?okK ?tabK ?frK ?inK ?keptK ?startK ?eachK ?finK
    case mixK => kernel_rfl
    case okK => kernel_rfl
    case tabK => kernel_rfl
    case frK => kernel_rfl
    case inK => rfl
    case keptK => exact ⟨fun _ _ _ _ _ _ _ h => h, fun _ _ _ _ _ _ _ h => h, fun _ _ _ _ _ _ _ h => h, fun _ _ _ => fun w w' v hG h => h.keep hG, fun _ _ _ _ _ _ _ h => h, fun _ _ _ _ _ _ _ h => h, fun _ _ _ _ _ _ _ h => h, fun _ _ _ _ _ _ _ h => h, fun _ _ _ => fun w w' v hG h => h.keep hG, fun _ _ _ _ _ _ _ h => h, fun _ _ _ _ _ _ _ h => h, fun _ _ _ _ _ _ _ h => h, fun _ _ _ _ _ _ _ h => h, fun _ _ _ _ _ _ _ h => h, fun _ _ _ _ _ _ _ h => h, fun _ _ _ _ _ _ _ h => h, fun _ _ _ _ _ _ _ h => h, fun _ _ _ _ _ _ _ h => h, fun _ _ _ _ _ _ _ h => h, fun _ _ _ _ _ _ _ h => h, fun _ _ _ _ _ _ _ h => h, fun _ _ _ _ _ _ _ h => h, fun _ _ _ _ _ _ _ h => h, fun _ _ _ _ _ _ _ h => h, fun _ _ _ _ _ _ _ h => h, fun _ _ _ _ _ _ _ h => h, fun _ _ _ _ _ _ _ h => h, fun _ _ _ _ _ _ _ h => h, fun _ _ _ _ _ _ _ h => h, fun _ _ _ _ _ _ _ h => h, fun _ _ _ _ _ _ _ h => h, fun _ _ _ _ _ _ _ h => h, fun _ _ _ _ _ _ _ h => h, fun _ _ _ _ _ _ _ h => h, fun _ _ _ _ _ _ _ h => h, fun _ _ _ _ _ _ _ h => h, fun _ _ _ => fun w w' v hG h => h.keep hG, fun _ _ _ _ _ _ _ h => h, fun _ _ _ _ _ _ _ h => h, fun _ _ _ _ _ _ _ h => h, fun _ _ _ _ _ _ _ h => h, fun _ _ _ => fun w w' v hG h => h.keep hG, fun _ _ _ _ _ _ _ h => h, fun _ _ _ _ _ _ _ h => h, fun _ _ _ _ _ _ _ h => h, fun _ _ _ _ _ _ _ h => h, fun _ _ _ _ _ _ _ h => h, trivial⟩
    case startK => exact ⟨h0.out.below (Below.refl _ _).drew, fun h => by simp at h, fun h => by simp at h, fun h => by simp at h⟩
    case eachK =>
      refine ⟨?_, ?_, ?_, ?_, ?_, ?_, ?_, ?_, ?_, ?_, ?_, ?_, ?_, ?_, ?_, ?_, ?_, ?_, ?_, ?_, ?_, ?_, ?_, ?_, ?_, ?_, ?_, ?_, ?_, ?_, ?_, ?_, ?_, ?_, ?_, ?_, ?_, ?_, ?_, ?_, ?_, ?_, ?_, ?_, ?_, ?_, ?_, trivial⟩
      -- 0: slot 29 := move t5
      · intro w L f hC hLi hLd hLn hF
        obtain ⟨d5, _⟩ := hF
        have d5 : f 5 = .pointer (some ⟨g1, 0, none⟩) := d5
        refine Step2.live rfl ?_
        exact relUpon_value (v := f 5) rfl (hC) (Writes.refl _ _) d5
      -- 1: slot 30 := nilCheck t29
      · intro w L f hC hLi hLd hLn hF
        obtain ⟨d29, _⟩ := hF
        have d29 : f 29 = .pointer (some ⟨g1, 0, none⟩) := d29
        refine Step2.live rfl ?_
        have ev : ∀ t, evalOf f (.tmp t) = f t := fun _ => rfl
        have ec : ∀ c, evalOf f (.const c) = c := fun _ => rfl
        refine relUpon_value ?_ (hC) (Writes.refl _ _) rfl
        go_simp
      -- 2: slot 31 := fieldAddr 30 t30 0
      · intro w L f hC hLi hLd hLn hF
        obtain ⟨d30, _⟩ := hF
        have d30 : f 30 = .pointer (some ⟨g1, 0, none⟩) := d30
        refine Step2.live rfl ?_
        have ev : ∀ t, evalOf f (.tmp t) = f t := fun _ => rfl
        have ec : ∀ c, evalOf f (.const c) = c := fun _ => rfl
        refine relUpon_value ?_ (hC) (Writes.refl _ _) rfl
        go_simp
      -- 3: slot 32 := call { value (Operand.func 18), args := #[t31], argTypes := #[28] }
      · intro w L f hC hLi hLd hLn hF
        obtain ⟨d31, _⟩ := hF
        have d31 : f 31 = .pointer (some ⟨g1, 0, none⟩) := d31
        refine Step2.live rfl ?_
        have ev : ∀ t, evalOf f (.tmp t) = f t := fun _ => rfl
        have ec : ∀ c, evalOf f (.const c) = c := fun _ => rfl
        have ef : ∀ g, evalOf f (.func g) = .func (.func g) #[] #[] := fun _ => rfl
        refine relUpon_call (f := 18) (args := #[.pointer (some ⟨g1, 0, none⟩)]) (w := w) (by go_simp) (bytes_any w g1 g1 _ v1 la hC.1.x hla.out) ?_
        rintro e w1 ⟨A', c', he, hb, hB, hN, _⟩
        exact ⟨_, he, ⟨hC.1.below hB, hC.2⟩, Writes.of_below hB _, SlAt.new hb hN hC.1.lt rfl⟩
      -- 4: slot 33 := convert 26 9 t32
      · intro w L f hC hLi hLd hLn hF
        obtain ⟨d32, _⟩ := hF
        refine Step2.live rfl ?_
        obtain ⟨A', c', e0, hs, _⟩ := d32
        have kv := run_text (P := Try.prog) w 26 5 Try.underlying26 Try.underlying5 A' la.length c' la rfl hs 9 Try.underlying9
        have ev : ∀ t, evalOf f (.tmp t) = f t := fun _ => rfl
        have ec : ∀ c, evalOf f (.const c) = c := fun _ => rfl
        have ef : ∀ g, evalOf f (.func g) = .func (.func g) #[] #[] := fun _ => rfl
        refine relUpon_value ?_ hC (Writes.refl _ _) rfl
        go_simp
      -- 5: slot 34 := move t6
      · intro w L f hC hLi hLd hLn hF
        obtain ⟨d6, _⟩ := hF
        have d6 : f 6 = .pointer (some ⟨g1 + 1, 0, none⟩) := d6
        refine Step2.live rfl ?_
        exact relUpon_value (v := f 6) rfl (hC) (Writes.refl _ _) d6
      -- 6: slot 35 := nilCheck t34
      · intro w L f hC hLi hLd hLn hF
        obtain ⟨d34, _⟩ := hF
        have d34 : f 34 = .pointer (some ⟨g1 + 1, 0, none⟩) := d34
        refine Step2.live rfl ?_
        have ev : ∀ t, evalOf f (.tmp t) = f t := fun _ => rfl
        have ec : ∀ c, evalOf f (.const c) = c := fun _ => rfl
        refine relUpon_value ?_ (hC) (Writes.refl _ _) rfl
        go_simp
      -- 7: slot 36 := fieldAddr 30 t35 0
      · intro w L f hC hLi hLd hLn hF
        obtain ⟨d35, _⟩ := hF
        have d35 : f 35 = .pointer (some ⟨g1 + 1, 0, none⟩) := d35
        refine Step2.live rfl ?_
        have ev : ∀ t, evalOf f (.tmp t) = f t := fun _ => rfl
        have ec : ∀ c, evalOf f (.const c) = c := fun _ => rfl
        refine relUpon_value ?_ (hC) (Writes.refl _ _) rfl
        go_simp
      -- 8: slot 37 := call { value (Operand.func 18), args := #[t36], argTypes := #[28] }
      · intro w L f hC hLi hLd hLn hF
        obtain ⟨d36, _⟩ := hF
        have d36 : f 36 = .pointer (some ⟨g1 + 1, 0, none⟩) := d36
        refine Step2.live rfl ?_
        have ev : ∀ t, evalOf f (.tmp t) = f t := fun _ => rfl
        have ec : ∀ c, evalOf f (.const c) = c := fun _ => rfl
        have ef : ∀ g, evalOf f (.func g) = .func (.func g) #[] #[] := fun _ => rfl
        refine relUpon_call (f := 18) (args := #[.pointer (some ⟨g1 + 1, 0, none⟩)]) (w := w) (by go_simp) (bytes_any w (g1 + 1) (g1 + 1) _ v2 lb hC.1.y hlb.out) ?_
        rintro e w1 ⟨A', c', he, hb, hB, hN, _⟩
        exact ⟨_, he, ⟨hC.1.below hB, hC.2⟩, Writes.of_below hB _, SlAt.new hb hN hC.1.lt rfl⟩
      -- 9: slot 38 := convert 26 9 t37
      · intro w L f hC hLi hLd hLn hF
        obtain ⟨d37, _⟩ := hF
        refine Step2.live rfl ?_
        obtain ⟨A', c', e0, hs, _⟩ := d37
        have kv := run_text (P := Try.prog) w 26 5 Try.underlying26 Try.underlying5 A' lb.length c' lb rfl hs 9 Try.underlying9
        have ev : ∀ t, evalOf f (.tmp t) = f t := fun _ => rfl
        have ec : ∀ c, evalOf f (.const c) = c := fun _ => rfl
        have ef : ∀ g, evalOf f (.func g) = .func (.func g) #[] #[] := fun _ => rfl
        refine relUpon_value ?_ hC (Writes.refl _ _) rfl
        go_simp
      -- 10: slot 39 := binOp BinOp.eql 9 t33 t38 9
      · intro w L f hC hLi hLd hLn hF
        obtain ⟨d33, d38, _⟩ := hF
        have d33 : f 33 = .string (strV la) := d33
        have d38 : f 38 = .string (strV lb) := d38
        refine Step2.live rfl ?_
        have ev : ∀ t, evalOf f (.tmp t) = f t := fun _ => rfl
        have ec : ∀ c, evalOf f (.const c) = c := fun _ => rfl
        refine relUpon_value ?_ (hC) (Writes.refl _ _) rfl
        go_simp
      -- 11: slot 40 := move t0
      · intro w L f hC hLi hLd hLn hF
        obtain ⟨d0, _⟩ := hF
        have d0 : f 0 = .int .i64 a := d0
        refine Step2.live rfl ?_
        exact relUpon_value (v := f 0) rfl (hC) (Writes.refl _ _) d0
      -- 12: slot 41 := move t1
      · intro w L f hC hLi hLd hLn hF
        obtain ⟨d1, _⟩ := hF
        have d1 : f 1 = .int .i64 b := d1
        refine Step2.live rfl ?_
        exact relUpon_value (v := f 1) rfl (hC) (Writes.refl _ _) d1
      -- 13: slot 42 := binOp BinOp.eql 2 t40 t41 2
      · intro w L f hC hLi hLd hLn hF
        obtain ⟨d40, d41, _⟩ := hF
        have d40 : f 40 = .int .i64 a := d40
        have d41 : f 41 = .int .i64 b := d41
        refine Step2.live rfl ?_
        have ev : ∀ t, evalOf f (.tmp t) = f t := fun _ => rfl
        have ec : ∀ c, evalOf f (.const c) = c := fun _ => rfl
        refine relUpon_value ?_ (hC) (Writes.refl _ _) rfl
        go_simp
      -- 14: slot 43 := binOp BinOp.eql 4 t39 t42 4
      · intro w L f hC hLi hLd hLn hF
        obtain ⟨d39, d42, _⟩ := hF
        have d39 : f 39 = .bool q := d39
        have d42 : f 42 = .bool q := d42
        refine Step2.live rfl ?_
        have ev : ∀ t, evalOf f (.tmp t) = f t := fun _ => rfl
        have ec : ∀ c, evalOf f (.const c) = c := fun _ => rfl
        refine relUpon_value ?_ (hC) (Writes.refl _ _) rfl
        go_simp
      -- 15: slot 44 := move t43
      · intro w L f hC hLi hLd hLn hF
        obtain ⟨d43, _⟩ := hF
        have d43 : f 43 = .bool true := d43
        refine Step2.live rfl ?_
        exact relUpon_value (v := f 43) rfl (hC) (Writes.refl _ _) d43
      -- 16: slot 45 := move t7
      · intro w L f hC hLi hLd hLn hF
        obtain ⟨d7, d44, _⟩ := hF
        have d7 : f 7 = .pointer (some ⟨gr, 0, none⟩) := d7
        have d44 : f 44 = .bool true := d44
        refine Step2.live (show wantedBy _ (f 44) = true by rw [d44]; rfl) ?_
        exact relUpon_value (v := f 7) rfl (hC) (Writes.refl _ _) d7
      -- 17: slot 46 := call { value (Operand.func 19), args := #[t45], argTypes := #[31] }
      · intro w L f hC hLi hLd hLn hF
        obtain ⟨d45, d44, _⟩ := hF
        have d45 : f 45 = .pointer (some ⟨gr, 0, none⟩) := d45
        have d44 : f 44 = .bool true := d44
        refine Step2.live (show wantedBy _ (f 44) = true by rw [d44]; rfl) ?_
        have ev : ∀ t, evalOf f (.tmp t) = f t := fun _ => rfl
        have ec : ∀ c, evalOf f (.const c) = c := fun _ => rfl
        have ef : ∀ g, evalOf f (.func g) = .func (.func g) #[] #[] := fun _ => rfl
        refine relUpon_call (f := 19) (args := #[.pointer (some ⟨gr, 0, none⟩)]) (w := w) (by go_simp) (rInt_any w gr _ (hC.1.r0 hLi)) ?_
        intro e w1 h6
        rw [hlae.out] at h6
        obtain ⟨he, hR, hM⟩ := Took.int h6 ha.out.1 ha.out.2
        exact ⟨_, he, ⟨hC.1.took hM hR, fun _ => rfl, fun _ => rfl, fun _ => rfl⟩, hM, rfl⟩
      -- 18: slot 47 := move t0
      · intro w L f hC hLi hLd hLn hF
        obtain ⟨d0, d44, _⟩ := hF
        have d0 : f 0 = .int .i64 a := d0
        have d44 : f 44 = .bool true := d44
        refine Step2.live (show wantedBy _ (f 44) = true by rw [d44]; rfl) ?_
        exact relUpon_value (v := f 0) rfl (hC) (Writes.refl _ _) d0
      -- 19: slot 48 := binOp BinOp.eql 2 t46 t47 2
      · intro w L f hC hLi hLd hLn hF
        obtain ⟨d46, d47, d44, _⟩ := hF
        have d46 : f 46 = .int .i64 a := d46
        have d47 : f 47 = .int .i64 a := d47
        have d44 : f 44 = .bool true := d44
        refine Step2.live (show wantedBy _ (f 44) = true by rw [d44]; rfl) ?_
        have ev : ∀ t, evalOf f (.tmp t) = f t := fun _ => rfl
        have ec : ∀ c, evalOf f (.const c) = c := fun _ => rfl
        have ef : ∀ g, evalOf f (.func g) = .func (.func g) #[] #[] := fun _ => rfl
        refine relUpon_value ?_ ⟨hC.1, fun _ => hLd 17 (by decide), hC.2.2⟩ (Writes.refl _ _) rfl
        go_simp
      -- 20: slot 49 := pick t44 t48 (const (Value.bool false))
      · intro w L f hC hLi hLd hLn hF
        obtain ⟨d44, d48, _⟩ := hF
        have d44 : f 44 = .bool true := d44
        have d48 : f 48 = .bool true := d48
        refine Step2.live rfl ?_
        have ev : ∀ t, evalOf f (.tmp t) = f t := fun _ => rfl
        have ec : ∀ c, evalOf f (.const c) = c := fun _ => rfl
        have ef : ∀ g, evalOf f (.func g) = .func (.func g) #[] #[] := fun _ => rfl
        refine relUpon_value ?_ ⟨hC.1, hC.2.1, fun _ => hC.2.1 (hLd 19 (by decide)), hC.2.2.2⟩ (Writes.refl _ _) rfl
        go_simp
      -- 21: slot 50 := move t49
      · intro w L f hC hLi hLd hLn hF
        obtain ⟨d49, _⟩ := hF
        have d49 : f 49 = .bool true := d49
        refine Step2.live rfl ?_
        exact relUpon_value (v := f 49) rfl ⟨hC.1, hC.2.1, hC.2.2.1, fun _ => hC.2.2.1 (hLd 20 (by decide))⟩ (Writes.refl _ _) d49
      -- 22: slot 51 := move t7
      · intro w L f hC hLi hLd hLn hF
        obtain ⟨d7, d50, _⟩ := hF
        have d7 : f 7 = .pointer (some ⟨gr, 0, none⟩) := d7
        have d50 : f 50 = .bool true := d50
        refine Step2.live (show wantedBy _ (f 50) = true by rw [d50]; rfl) ?_
        exact relUpon_value (v := f 7) rfl (hC) (Writes.refl _ _) d7
      -- 23: slot 52 := call { value (Operand.func 20), args := #[t51], argTypes := #[31] }
      · intro w L f hC hLi hLd hLn hF
        obtain ⟨d51, d50, _⟩ := hF
        have d51 : f 51 = .pointer (some ⟨gr, 0, none⟩) := d51
        have d50 : f 50 = .bool true := d50
        refine Step2.live (show wantedBy _ (f 50) = true by rw [d50]; rfl) ?_
        have ev : ∀ t, evalOf f (.tmp t) = f t := fun _ => rfl
        have ec : ∀ c, evalOf f (.const c) = c := fun _ => rfl
        have ef : ∀ g, evalOf f (.func g) = .func (.func g) #[] #[] := fun _ => rfl
        refine relUpon_call (f := 20) (args := #[.pointer (some ⟨gr, 0, none⟩)]) (w := w) (by go_simp) (done_any w gr _ (hC.1.r1 (hC.2.2.2 (hLd 21 (by decide))))) ?_
        rintro e w1 ⟨he, rfl⟩
        exact ⟨_, he, hC, Writes.refl _ _, rfl⟩
      -- 24: slot 53 := binOp BinOp.eql 3 t52 (const (0:i64)) 3
      · intro w L f hC hLi hLd hLn hF
        obtain ⟨d52, d50, _⟩ := hF
        have d52 : f 52 = .int .i64 0 := d52
        have d50 : f 50 = .bool true := d50
        refine Step2.live (show wantedBy _ (f 50) = true by rw [d50]; rfl) ?_
        have ev : ∀ t, evalOf f (.tmp t) = f t := fun _ => rfl
        have ec : ∀ c, evalOf f (.const c) = c := fun _ => rfl
        refine relUpon_value ?_ (hC) (Writes.refl _ _) rfl
        go_simp
      -- 25: slot 54 := pick t50 t53 (const (Value.bool false))
      · intro w L f hC hLi hLd hLn hF
        obtain ⟨d50, d53, _⟩ := hF
        have d50 : f 50 = .bool true := d50
        have d53 : f 53 = .bool true := d53
        refine Step2.live rfl ?_
        have ev : ∀ t, evalOf f (.tmp t) = f t := fun _ => rfl
        have ec : ∀ c, evalOf f (.const c) = c := fun _ => rfl
        refine relUpon_value ?_ (hC) (Writes.refl _ _) rfl
        go_simp
      -- 26: slot 55 := move t54
      · intro w L f hC hLi hLd hLn hF
        obtain ⟨d54, _⟩ := hF
        have d54 : f 54 = .bool true := d54
        refine Step2.live rfl ?_
        exact relUpon_value (v := f 54) rfl (hC) (Writes.refl _ _) d54
      -- 27: slot 56 := move t0
      · intro w L f hC hLi hLd hLn hF
        obtain ⟨d0, d55, _⟩ := hF
        have d0 : f 0 = .int .i64 a := d0
        have d55 : f 55 = .bool true := d55
        refine Step2.live (show wantedBy _ (f 55) = true by rw [d55]; rfl) ?_
        exact relUpon_value (v := f 0) rfl (hC) (Writes.refl _ _) d0
      -- 28: slot 57 := call { value (Operand.func 21), args := #[t56], argTypes := #[2] }
      · intro w L f hC hLi hLd hLn hF
        obtain ⟨d56, d55, _⟩ := hF
        have d56 : f 56 = .int .i64 a := d56
        have d55 : f 55 = .bool true := d55
        refine Step2.live (show wantedBy _ (f 55) = true by rw [d55]; rfl) ?_
        have ev : ∀ t, evalOf f (.tmp t) = f t := fun _ => rfl
        have ec : ∀ c, evalOf f (.const c) = c := fun _ => rfl
        have ef : ∀ g, evalOf f (.func g) = .func (.func g) #[] #[] := fun _ => rfl
        refine relUpon_call (f := 21) (args := #[.int .i64 a]) (w := w) (by go_simp) (zig_any w a ha.out.1 ha.out.2) ?_
        rintro e w1 ⟨he, rfl⟩
        exact ⟨_, he, hC, Writes.refl _ _, rfl⟩
      -- 29: slot 58 := move t1
      · intro w L f hC hLi hLd hLn hF
        obtain ⟨d1, d55, _⟩ := hF
        have d1 : f 1 = .int .i64 b := d1
        have d55 : f 55 = .bool true := d55
        refine Step2.live (show wantedBy _ (f 55) = true by rw [d55]; rfl) ?_
        exact relUpon_value (v := f 1) rfl (hC) (Writes.refl _ _) d1
      -- 30: slot 59 := call { value (Operand.func 21), args := #[t58], argTypes := #[2] }
      · intro w L f hC hLi hLd hLn hF
        obtain ⟨d58, d55, _⟩ := hF
        have d58 : f 58 = .int .i64 b := d58
        have d55 : f 55 = .bool true := d55
        refine Step2.live (show wantedBy _ (f 55) = true by rw [d55]; rfl) ?_
        have ev : ∀ t, evalOf f (.tmp t) = f t := fun _ => rfl
        have ec : ∀ c, evalOf f (.const c) = c := fun _ => rfl
        have ef : ∀ g, evalOf f (.func g) = .func (.func g) #[] #[] := fun _ => rfl
        refine relUpon_call (f := 21) (args := #[.int .i64 b]) (w := w) (by go_simp) (zig_any w b hb.out.1 hb.out.2) ?_
        rintro e w1 ⟨he, rfl⟩
        exact ⟨_, he, hC, Writes.refl _ _, rfl⟩
      -- 31: slot 60 := binOp BinOp.gtr 37 t57 t59 37
      · intro w L f hC hLi hLd hLn hF
        obtain ⟨d57, d59, d55, _⟩ := hF
        have d57 : f 57 = .int .u64 (zigN a : Nat) := d57
        have d59 : f 59 = .int .u64 (zigN b : Nat) := d59
        have d55 : f 55 = .bool true := d55
        refine Step2.live (show wantedBy _ (f 55) = true by rw [d55]; rfl) ?_
        have ev : ∀ t, evalOf f (.tmp t) = f t := fun _ => rfl
        have ec : ∀ c, evalOf f (.const c) = c := fun _ => rfl
        refine relUpon_value ?_ (hC) (Writes.refl _ _) rfl
        go_simp
      -- 32: slot 61 := move t60
      · intro w L f hC hLi hLd hLn hF
        obtain ⟨d60, d55, _⟩ := hF
        have d60 : f 60 = .bool false := d60
        have d55 : f 55 = .bool true := d55
        refine Step2.live (show wantedBy _ (f 55) = true by rw [d55]; rfl) ?_
        exact relUpon_value (v := f 60) rfl (hC) (Writes.refl _ _) d60
      -- 33: slot 62 := move t5
      · intro w L f hC hLi hLd hLn hF
        obtain ⟨d5, d61, _⟩ := hF
        have d5 : f 5 = .pointer (some ⟨g1, 0, none⟩) := d5
        have d61 : f 61 = .bool false := d61
        refine Step2.live (show wantedBy _ (f 61) = true by rw [d61]; rfl) ?_
        exact relUpon_value (v := f 5) rfl (hC) (Writes.refl _ _) d5
      -- 34: slot 63 := nilCheck t62
      · intro w L f hC hLi hLd hLn hF
        obtain ⟨d62, d61, _⟩ := hF
        have d62 : f 62 = .pointer (some ⟨g1, 0, none⟩) := d62
        have d61 : f 61 = .bool false := d61
        refine Step2.live (show wantedBy _ (f 61) = true by rw [d61]; rfl) ?_
        have ev : ∀ t, evalOf f (.tmp t) = f t := fun _ => rfl
        have ec : ∀ c, evalOf f (.const c) = c := fun _ => rfl
        refine relUpon_value ?_ (hC) (Writes.refl _ _) rfl
        go_simp
      -- 35: slot 64 := fieldAddr 30 t63 0
      · intro w L f hC hLi hLd hLn hF
        obtain ⟨d63, d61, _⟩ := hF
        have d63 : f 63 = .pointer (some ⟨g1, 0, none⟩) := d63
        have d61 : f 61 = .bool false := d61
        refine Step2.live (show wantedBy _ (f 61) = true by rw [d61]; rfl) ?_
        have ev : ∀ t, evalOf f (.tmp t) = f t := fun _ => rfl
        have ec : ∀ c, evalOf f (.const c) = c := fun _ => rfl
        refine relUpon_value ?_ (hC) (Writes.refl _ _) rfl
        go_simp
      -- 36: slot 65 := call { value (Operand.func 18), args := #[t64], argTypes := #[28] }
      · intro w L f hC hLi hLd hLn hF
        obtain ⟨d64, d61, _⟩ := hF
        have d64 : f 64 = .pointer (some ⟨g1, 0, none⟩) := d64
        have d61 : f 61 = .bool false := d61
        refine Step2.live (show wantedBy _ (f 61) = true by rw [d61]; rfl) ?_
        have ev : ∀ t, evalOf f (.tmp t) = f t := fun _ => rfl
        have ec : ∀ c, evalOf f (.const c) = c := fun _ => rfl
        have ef : ∀ g, evalOf f (.func g) = .func (.func g) #[] #[] := fun _ => rfl
        refine relUpon_call (f := 18) (args := #[.pointer (some ⟨g1, 0, none⟩)]) (w := w) (by go_simp) (bytes_any w g1 g1 _ v1 la hC.1.x hla.out) ?_
        rintro e w1 ⟨A', c', he, hb, hB, hN, _⟩
        exact ⟨_, he, ⟨hC.1.below hB, hC.2⟩, Writes.of_below hB _, SlAt.new hb hN hC.1.lt rfl⟩
      -- 37: slot 66 := call { builtin len, args := #[t65], argTypes := #[26] }
      · intro w L f hC hLi hLd hLn hF
        obtain ⟨d65, d61, _⟩ := hF
        have d61 : f 61 = .bool false := d61
        refine Step2.live (show wantedBy _ (f 61) = true by rw [d61]; rfl) ?_
        obtain ⟨A', c', e0, hs, _⟩ := d65
        have ev : ∀ t, evalOf f (.tmp t) = f t := fun _ => rfl
        have ec : ∀ c, evalOf f (.const c) = c := fun _ => rfl
        have ef : ∀ g, evalOf f (.func g) = .func (.func g) #[] #[] := fun _ => rfl
        refine relUpon_value ?_ hC (Writes.refl _ _) rfl
        go_simp
      -- 38: slot 67 := move t6
      · intro w L f hC hLi hLd hLn hF
        obtain ⟨d6, d61, _⟩ := hF
        have d6 : f 6 = .pointer (some ⟨g1 + 1, 0, none⟩) := d6
        have d61 : f 61 = .bool false := d61
        refine Step2.live (show wantedBy _ (f 61) = true by rw [d61]; rfl) ?_
        exact relUpon_value (v := f 6) rfl (hC) (Writes.refl _ _) d6
      -- 39: slot 68 := nilCheck t67
      · intro w L f hC hLi hLd hLn hF
        obtain ⟨d67, d61, _⟩ := hF
        have d67 : f 67 = .pointer (some ⟨g1 + 1, 0, none⟩) := d67
        have d61 : f 61 = .bool false := d61
        refine Step2.live (show wantedBy _ (f 61) = true by rw [d61]; rfl) ?_
        have ev : ∀ t, evalOf f (.tmp t) = f t := fun _ => rfl
        have ec : ∀ c, evalOf f (.const c) = c := fun _ => rfl
        refine relUpon_value ?_ (hC) (Writes.refl _ _) rfl
        go_simp
      -- 40: slot 69 := fieldAddr 30 t68 0
      · intro w L f hC hLi hLd hLn hF
        obtain ⟨d68, d61, _⟩ := hF
        have d68 : f 68 = .pointer (some ⟨g1 + 1, 0, none⟩) := d68
        have d61 : f 61 = .bool false := d61
        refine Step2.live (show wantedBy _ (f 61) = true by rw [d61]; rfl) ?_
        have ev : ∀ t, evalOf f (.tmp t) = f t := fun _ => rfl
        have ec : ∀ c, evalOf f (.const c) = c := fun _ => rfl
        refine relUpon_value ?_ (hC) (Writes.refl _ _) rfl
        go_simp
      -- 41: slot 70 := call { value (Operand.func 18), args := #[t69], argTypes := #[28] }
      · intro w L f hC hLi hLd hLn hF
        obtain ⟨d69, d61, _⟩ := hF
        have d69 : f 69 = .pointer (some ⟨g1 + 1, 0, none⟩) := d69
        have d61 : f 61 = .bool false := d61
        refine Step2.live (show wantedBy _ (f 61) = true by rw [d61]; rfl) ?_
        have ev : ∀ t, evalOf f (.tmp t) = f t := fun _ => rfl
        have ec : ∀ c, evalOf f (.const c) = c := fun _ => rfl
        have ef : ∀ g, evalOf f (.func g) = .func (.func g) #[] #[] := fun _ => rfl
        refine relUpon_call (f := 18) (args := #[.pointer (some ⟨g1 + 1, 0, none⟩)]) (w := w) (by go_simp) (bytes_any w (g1 + 1) (g1 + 1) _ v2 lb hC.1.y hlb.out) ?_
        rintro e w1 ⟨A', c', he, hb, hB, hN, _⟩
        exact ⟨_, he, ⟨hC.1.below hB, hC.2⟩, Writes.of_below hB _, SlAt.new hb hN hC.1.lt rfl⟩
      -- 42: slot 71 := call { builtin len, args := #[t70], argTypes := #[26] }
      · intro w L f hC hLi hLd hLn hF
        obtain ⟨d70, d61, _⟩ := hF
        have d61 : f 61 = .bool false := d61
        refine Step2.live (show wantedBy _ (f 61) = true by rw [d61]; rfl) ?_
        obtain ⟨A', c', e0, hs, _⟩ := d70
        have ev : ∀ t, evalOf f (.tmp t) = f t := fun _ => rfl
        have ec : ∀ c, evalOf f (.const c) = c := fun _ => rfl
        have ef : ∀ g, evalOf f (.func g) = .func (.func g) #[] #[] := fun _ => rfl
        refine relUpon_value ?_ hC (Writes.refl _ _) rfl
        go_simp
      -- 43: slot 72 := binOp BinOp.leq 3 t66 t71 3
      · intro w L f hC hLi hLd hLn hF
        obtain ⟨d66, d71, d61, _⟩ := hF
        have d66 : f 66 = .int .i64 (la.length : Nat) := d66
        have d71 : f 71 = .int .i64 (lb.length : Nat) := d71
        have d61 : f 61 = .bool false := d61
        refine Step2.live (show wantedBy _ (f 61) = true by rw [d61]; rfl) ?_
        have ev : ∀ t, evalOf f (.tmp t) = f t := fun _ => rfl
        have ec : ∀ c, evalOf f (.const c) = c := fun _ => rfl
        refine relUpon_value ?_ (hC) (Writes.refl _ _) rfl
        go_simp
      -- 44: slot 73 := pick t61 (const (Value.bool true)) t72
      · intro w L f hC hLi hLd hLn hF
        obtain ⟨d61, d72, d55, _⟩ := hF
        have d61 : f 61 = .bool false := d61
        have d72 : f 72 = .bool true := d72
        have d55 : f 55 = .bool true := d55
        refine Step2.live (show wantedBy _ (f 55) = true by rw [d55]; rfl) ?_
        have ev : ∀ t, evalOf f (.tmp t) = f t := fun _ => rfl
        have ec : ∀ c, evalOf f (.const c) = c := fun _ => rfl
        refine relUpon_value ?_ (hC) (Writes.refl _ _) rfl
        go_simp
      -- 45: slot 74 := pick t55 t73 (const (Value.bool false))
      · intro w L f hC hLi hLd hLn hF
        obtain ⟨d55, d73, _⟩ := hF
        have d55 : f 55 = .bool true := d55
        have d73 : f 73 = .bool true := d73
        refine Step2.live rfl ?_
        have ev : ∀ t, evalOf f (.tmp t) = f t := fun _ => rfl
        have ec : ∀ c, evalOf f (.const c) = c := fun _ => rfl
        refine relUpon_value ?_ (hC) (Writes.refl _ _) rfl
        go_simp
      -- 46: slot 4 := assign t74
      · intro w L f hC hLi hLd hLn hF
        obtain ⟨d74, _⟩ := hF
        have d74 : f 74 = .bool true := d74
        refine Step2.live rfl ?_
        exact relUpon_value (v := f 74) rfl (hC) (Writes.refl _ _) d74
    case finK =>
      intro x w' hC hV
      have e74 : x 46 = .bool true := hV 46 _ rfl rfl
      simp only [framed]
      rw [e74]
      clear hV
      go_wp2
      go_ret
      exact ⟨rfl, hBc.out.trans (hC.1.m.below hBc.out.size (fun k hk => by simp at hk; omega))⟩


theorem ints_walk (W : World) (v0 v1 : Value) (o0 : ArgOk 2 W v0) (o1 : ArgOk 2 W v1) :
    Calls Try.prog 3 #[v0, v1] W fun e w' => e = .returned (.bool true) ∧ Below W.heap.size W w' := by
  obtain ⟨a, rfl, ha⟩ := o0.i64
  obtain ⟨b, rfl, hb⟩ := o1.i64
  exact ints_any W a b ha hb
end Go.Proofs.Ytimhghmnnibajaa
