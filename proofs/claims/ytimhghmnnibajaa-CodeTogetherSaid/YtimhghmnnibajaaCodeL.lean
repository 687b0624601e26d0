/-
  The walk of CodeTogether.
-/
import Derived.Test.YtimhghmnnibajaaCodeR
namespace Go.Proofs.Ytimhghmnnibajaa
open Go.RowKit Go.ChangeShapes Go.WideShapes Go.Deep

theorem Pair.new {W w1 : World} (h : Below W.heap.size W w1) : Pair W ((w1.alloc (.cells #[.slice none 0 0] 30)).alloc (.cells #[.slice none 0 0] 30)) w1.heap.size (w1.heap.size + 1) (.slice none 0 0) (.slice none 0 0) [] [] := by
  have h1 : Wrt (w1.alloc (.cells #[.slice none 0 0] 30)) W.heap.size w1.heap.size 30 (.slice none 0 0) [] := ⟨Holds.new _ _ _, World.ownsRow_nil _ _ _ _, h.size, by decide⟩
  refine ⟨(h.alloc h.size _).alloc (by simp; have := h.size; omega) _, h1.below (below_new _ _), ?_, by omega, by simp [Value.ownBlock], by simp [Value.ownBlock], .inl rfl⟩
  have h2 : Holds ((w1.alloc (.cells #[.slice none 0 0] 30)).alloc (.cells #[.slice none 0 0] 30)) (w1.alloc (.cells #[.slice none 0 0] 30)).heap.size 30 #[.slice none 0 0] := Holds.new _ _ _
  rw [show (w1.alloc (.cells #[.slice none 0 0] 30)).heap.size = w1.heap.size + 1 by simp] at h2
  exact ⟨h2, World.ownsRow_nil _ _ _ _, by have := h.size; omega, by decide⟩
theorem flat_len_all {α : Type} (f : α → List UInt8) (n : Nat) (l : List α) (h : ∀ x ∈ l, (f x).length ≤ n) : (l.flatMap f).length ≤ n * l.length := by
  have := flat_len' f n l h l.length
  rw [List.take_length] at this
  exact this

set_option maxRecDepth 100000 in
set_option maxHeartbeats 8000000 in
theorem together_any (W : World) (A1 A2 A3 A4 : Option Addr) (c1 c2 c3 c4 : Nat) (ns : List Nat) (is : List Int) (ss : List ByteArray) (bs : List Bool)
    (h1 : Row W W.heap.size A1 (ns.map u64V)) (p1 : ∀ n ∈ ns, n < 18446744073709551616) (h2 : Row W W.heap.size A2 (is.map i64V)) (p2 : ∀ n ∈ is, -9223372036854775808 ≤ n ∧ n ≤ 9223372036854775807)
    (h3 : Row W W.heap.size A3 (ss.map Value.string)) (p3 : ∀ s ∈ ss, s.size ≤ maxLen) (h4 : Row W W.heap.size A4 (bs.map Value.bool))
    (m1 : ns.length ≤ maxLen) (m2 : is.length ≤ maxLen) (m3 : ss.length ≤ maxLen) (m4 : bs.length ≤ maxLen) :
    Calls Try.prog 5 #[.slice A1 ns.length c1, .slice A2 is.length c2, .slice A3 ss.length c3, .slice A4 bs.length c4] W fun e w' => e = .returned (.bool true) ∧ Below W.heap.size W w' := by
  unfold maxLen at m1 m2 m3 m4 p3
  have h1 := Lib.hid h1
  have h2 := Lib.hid h2
  have h3 := Lib.hid h3
  have h4 := Lib.hid h4
  have p1 := Lib.hid p1
  have p2 := Lib.hid p2
  have p3 := Lib.hid p3
  go_enter Try.func5, Try.ntmps5
  go_wp2_with fail
  refine (known_any _).mono ?_
  rintro e w1 ⟨rfl, hb1⟩
  have hb1 := Lib.hid hb1
  rename_i hb1'
  clear hb1'
  by_cases q1 : 20 < ns.length
  case pos =>
    go_wp2_with fail
    go_ret
    exact ⟨rfl, hb1.out⟩
  by_cases q2 : 20 < is.length
  case pos =>
    go_wp2_with fail
    go_ret
    exact ⟨rfl, hb1.out⟩
  by_cases q3 : 20 < ss.length
  case pos =>
    go_wp2_with fail
    go_ret
    exact ⟨rfl, hb1.out⟩
  by_cases q4 : 20 < bs.length
  case pos =>
    go_wp2_with fail
    go_ret
    exact ⟨rfl, hb1.out⟩
  go_wp2_with fail
  refine (newWriter_any _).mono ?_
  rintro e w2 ⟨rfl, rfl⟩
  go_wp2_with fail
  refine (newWriter_any _).mono ?_
  rintro e w3 ⟨rfl, rfl⟩
  have hp := Lib.hid (Pair.new hb1.out)
  obtain ⟨c0, hc0⟩ : ∃ c : List UInt8, c = [] := ⟨_, rfl⟩
  rw [← hc0] at hp
  obtain ⟨g1, hg1⟩ : ∃ g, w1.heap.size = g := ⟨_, rfl⟩
  obtain ⟨g2, hg2⟩ : ∃ g, g1 + 1 = g := ⟨_, rfl⟩
  have hs2 : (w1.alloc (.cells #[.slice none 0 0] 30)).heap.size = g2 := by simp [hg1, hg2]
  rw [hs2]
  rw [hg1, hg2] at hp
  rw [hg1]
  generalize (w1.alloc (.cells #[.slice none 0 0] 30)).alloc (.cells #[.slice none 0 0] 30) = w3 at hp ⊢
  obtain ⟨vn, hvn⟩ : ∃ v : Value, v = .slice none 0 0 := ⟨_, rfl⟩
  rw [← hvn] at hp
  have hvn := Lib.hid hvn
  rename_i hvn'
  clear hvn' hs2 hg2 hg1 hb1
  have hl3 : Hid (c0.length ≤ 0) := Lib.hid (by rw [hc0]; exact Nat.le_refl _)
  have hc0 := Lib.hid hc0
  rename_i hc0'
  clear hc0'
  have hrw := Lib.hid ((Row.below h1.out hp.out.b).more hp.out.b.size)
  have hof := Lib.hid (Row.off_low (w' := w3) h1.out hp.out.x)
  go_wp2_with fail
  refine (num_any w3 W.heap.size g1 30 vn c0 A1 c1 ns hp.out.x hp.out.b.size p1.out hrw.out (fun hne => hof.out (by simpa using hne)) (by have := hl3.out; omega)).mono ?_
  intro e w4 hw
  obtain ⟨rfl, v4, hp'⟩ := hp.out.left hw
  clear hp hw hrw hof
  have hp := Lib.hid hp'
  clear hp'
  obtain ⟨L4, hL4⟩ : ∃ L, L = c0 ++ ns.flatMap numE := ⟨_, rfl⟩
  rw [← hL4] at hp
  have hl4 : Hid (L4.length ≤ 200) := Lib.hid (by rw [hL4, List.length_append]; have := hl3.out; have := flat_len_all numE 10 ns fun n h => numE_len10 n (p1.out n h); omega)
  have hL4 := Lib.hid hL4
  rename_i hL'
  clear hL'
  have hrw := Lib.hid ((Row.below h2.out hp.out.b).more hp.out.b.size)
  have hof := Lib.hid (Row.off_low (w' := w4) h2.out hp.out.x)
  go_wp2_with fail
  refine (int_any w4 W.heap.size g1 30 v4 L4 A2 c2 is hp.out.x hp.out.b.size p2.out hrw.out (fun hne => hof.out (by simpa using hne)) (by have := hl4.out; omega)).mono ?_
  intro e w5 hw
  obtain ⟨rfl, v5, hp'⟩ := hp.out.left hw
  clear hp hw hrw hof
  have hp := Lib.hid hp'
  clear hp'
  obtain ⟨L5, hL5⟩ : ∃ L, L = L4 ++ is.flatMap intE := ⟨_, rfl⟩
  rw [← hL5] at hp
  have hl5 : Hid (L5.length ≤ 400) := Lib.hid (by rw [hL5, List.length_append]; have := hl4.out; have := flat_len_all intE 10 is fun n h => numE_len10 _ (zigN_lt n (p2.out n h).1 (p2.out n h).2); omega)
  have hL5 := Lib.hid hL5
  rename_i hL'
  clear hL'
  go_wp2_with fail
  go_loopw [11] (fun i wr => ∃ k : Nat, k ≤ ss.length ∧ i = .int .i64 k ∧ Pair W wr g1 g2 v5 vn L5 c0 ∧ ∀ s ∈ ss.take k, s.size ≤ 100) (fun i _ => ss.length - (intOf i).toNat)
  case atStart => exact ⟨0, by omega, rfl, hp.out, by simp⟩
  clear hp
  obtain ⟨k, hk, rfl, hp, hs⟩ := hrel
  have hp := Lib.hid hp
  rename_i hp'
  clear hp'
  have hs := Lib.hid hs
  rename_i hs'
  clear hs'
  by_cases hlt : k < ss.length
  case pos =>
    obtain ⟨b, off, rfl, hb, hcell0⟩ := ((Row.below h3.out hp.out.b).more hp.out.b.size).at_ (k := k) (by simpa using hlt)
    have hcell : wr.cell? ⟨b, off + k, none⟩ = some (.string ss[k]) := by rw [hcell0]; simp
    clear hcell0
    have hts := Lib.hid (List.take_succ_eq_append_getElem hlt)
    generalize hxk : ss[k] = xk at *
    have hxk := Lib.hid hxk
    rename_i hxk'
    clear hxk'
    have hzz : xk.size ≤ 9223372036854775807 := by have := p3.out xk (by rw [← hxk.out]; exact List.getElem_mem hlt); omega
    by_cases hq : 100 < xk.size
    · go_wp2_with fail
      go_ret
      exact ⟨rfl, hp.out.b⟩
    · go_wp2_with fail
      go_roundw
      case rel =>
        refine ⟨k + 1, by omega, by go_num, hp.out, fun s hsm => ?_⟩
        rw [hts.out] at hsm
        rcases List.mem_append.1 hsm with h | h
        · exact hs.out s h
        · simp at h
          subst h
          omega
      case measure => simp [intOf]; omega
  obtain rfl : k = ss.length := by omega
  rw [List.take_length] at hs
  obtain ⟨w5, rfl⟩ : ∃ x, x = wr := ⟨_, rfl⟩
  have hL0 : Hid (∀ x ∈ ss, (txtE x).length ≤ 110) := Lib.hid fun x hx => txtE_len 100 x (hs.out x hx) (by omega)
  have hrw := Lib.hid ((Row.below h3.out hp.out.b).more hp.out.b.size)
  have hof := Lib.hid (Row.off_low (w' := w5) h3.out hp.out.x)
  go_wp2_with fail
  refine (text_any w5 W.heap.size g1 30 v5 L5 A3 c3 100 ss hp.out.x hp.out.b.size hs.out (by omega) hrw.out (fun hne => hof.out (by simpa using hne)) (by have := hl5.out; omega)).mono ?_
  intro e w6 hw
  obtain ⟨rfl, v6, hp'⟩ := hp.out.left hw
  clear hp hw hrw hof
  have hp := Lib.hid hp'
  clear hp'
  obtain ⟨L6, hL6⟩ : ∃ L, L = L5 ++ ss.flatMap txtE := ⟨_, rfl⟩
  rw [← hL6] at hp
  have hl6 : Hid (L6.length ≤ 2600) := Lib.hid (by rw [hL6, List.length_append]; have := hl5.out; have := flat_len_all txtE 110 ss hL0.out; omega)
  have hL6 := Lib.hid hL6
  rename_i hL'
  clear hL'
  have hrw := Lib.hid ((Row.below h4.out hp.out.b).more hp.out.b.size)
  have hof := Lib.hid (Row.off_low (w' := w6) h4.out hp.out.x)
  go_wp2_with fail
  refine (bool_any w6 W.heap.size g1 30 v6 L6 A4 c4 bs hp.out.x hp.out.b.size  hrw.out (fun hne => hof.out (by simpa using hne)) (by have := hl6.out; omega)).mono ?_
  intro e w7 hw
  obtain ⟨rfl, v7, hp'⟩ := hp.out.left hw
  clear hp hw hrw hof
  have hp := Lib.hid hp'
  clear hp'
  obtain ⟨L7, hL7⟩ : ∃ L, L = L6 ++ bs.flatMap boolE := ⟨_, rfl⟩
  rw [← hL7] at hp
  have hl7 : Hid (L7.length ≤ 2620) := Lib.hid (by rw [hL7, List.length_append]; have := hl6.out; have := flat_len_all boolE 1 bs (fun b _ => by simp [boolE]); omega)
  have hL7 := Lib.hid hL7
  rename_i hL'
  clear hL'
  have hl02 : Hid (c0.length ≤ 0) := hl3
  go_wp2_with fail
  go_loopw [12] (fun i wr => ∃ k : Nat, k ≤ ns.length ∧ i = .int .i64 k ∧ ∃ u, Pair W wr g1 g2 v7 u L7 (c0 ++ (ns.take k).flatMap numE)) (fun i _ => ns.length - (intOf i).toNat)
  case atStart => exact ⟨0, by omega, rfl, _, by simpa using hp.out⟩
  clear hp
  obtain ⟨k, hk, rfl, u, hp⟩ := hrel
  by_cases hlt : k < ns.length
  case pos =>
    obtain ⟨b, off, rfl, hb, hcell0⟩ := Row.at_ (Row.below h1.out hp.b) (k := k) (by simpa using hlt)
    have hbr := Lib.hid (Nat.lt_of_lt_of_le hb hp.b.size)
    have hcell0 : Hid (wr.cell? ⟨b, off + k, none⟩ = some (.int .u64 (ns[k] : Nat))) := Lib.hid (by rw [hcell0]; simp [u64V])
    rename_i hcell0'
    clear hcell0'
    have hft := Lib.hid (flat_take numE ns k hlt)
    have hcl : (c0 ++ (ns.take k).flatMap numE).length ≤ 99999 := by
      rw [List.length_append]
      have := hl02.out
      have := flat_len' numE 10 ns (fun n h => numE_len10 n (p1.out n h)) k
      have : 10 * k ≤ 10 * 20 := Nat.mul_le_mul_left _ (by omega)
      omega
    have hxk := Lib.hid (p1.out ns[k] (List.getElem_mem hlt))
    generalize hxe : ns[k] = xk at *
    clear hxe
    have hnx : Hid (∀ w', Wrote wr W.heap.size g2 30 u (c0 ++ (ns.take k).flatMap numE ++ numE xk) (.returned (.tuple #[])) w' → ∃ u', Pair W w' g1 g2 v7 u' L7 (c0 ++ (ns.take (k + 1)).flatMap numE)) := Lib.hid fun w' h => by
      rw [hft.out, ← List.append_assoc]
      exact (hp.right h).2
    generalize c0 ++ (ns.take k).flatMap numE = cur at *
    have hoffk : Hid (∀ k, wr.heap.size ≤ k → some k ∉ [some g2, u.ownBlock]) := Lib.hid fun k hk => hp.y.lt hk
    have hp := Lib.hid hp
    rename_i hp'
    clear hp'
    have hcl := Lib.hid (show cur.length ≤ 99999999980 from by omega)
    rename_i hcl'
    clear hcl'
    go_wp2_with fail
    -- THE REGION THAT DRAWS ITS ORDER, BY ONE LEXICAL WALK OVER GENERIC VALUES (written by relgen.py)
    refine wp_region_tab ((fun _ v => v = .pointer (some ⟨g2, 0, none⟩)) ::
      (fun _ v => v = .pointer (some ⟨g2, 0, none⟩)) ::
      (fun _ v => v = .pointer (some ⟨g2, 0, none⟩)) ::
      (fun _ v => v = .slice (some ⟨b, off, none⟩) ns.length c1) ::
      (fun _ v => v = .int .i64 k) ::
      (fun _ v => v = .pointer (some ⟨b, off + k, none⟩)) ::
      (fun _ v => v = .int .u64 (xk : Nat)) ::
      (fun w v => NewRow wr.heap.size 37 (.int .u64 (xk : Nat)) w v) ::
      (fun _ _ => True) :: [])
      (⟨[(10, none)], 0, []⟩ :: ⟨[(76, some 0)], 0, []⟩ :: ⟨[(77, some 1)], 0, []⟩ :: ⟨[(0, none)], 0, []⟩ :: ⟨[(12, none)], 0, []⟩ :: ⟨[(79, some 3), (80, some 4)], 0, []⟩ :: ⟨[(81, some 5)], 0, [7]⟩ :: ⟨[(82, some 6)], 0, [8]⟩ :: ⟨[(78, some 2), (83, some 7)], 0, []⟩ :: [])
      (none :: none :: none :: none :: none :: none :: none :: none :: none :: none :: none :: none :: none :: none :: none :: none :: none :: none :: none :: none :: none :: none :: none :: none :: none :: none :: none :: none :: none :: none :: none :: none :: none :: none :: none :: none :: none :: none :: none :: none :: none :: none :: none :: none :: none :: none :: none :: none :: none :: none :: none :: none :: none :: none :: none :: none :: none :: none :: none :: none :: none :: none :: none :: none :: none :: none :: none :: none :: none :: none :: none :: none :: none :: none :: none :: none :: some 0 :: some 1 :: some 2 :: some 3 :: some 4 :: some 5 :: some 6 :: some 7 :: some 8 :: [])
      (fun L w' => PutAt wr W.heap.size g2 30 u (cur ++ numE xk) (L 8) w' ∧ (L 8 = true → L 7 = true)) (fun _ w w' => Writes [some g2, u.ownBlock] w w') ?mixK ?okK ?tabK ?frK ?inK ?keptK ?startK ?eachK ?finK
    case mixK => kernel_rfl
    case okK => kernel_rfl
    case tabK => kernel_rfl
    case frK => kernel_rfl
    case inK => rfl
    case keptK => exact ⟨fun _ _ _ _ _ _ _ h => h, fun _ _ _ _ _ _ _ h => h, fun _ _ _ _ _ _ _ h => h, fun _ _ _ _ _ _ _ h => h, fun _ _ _ _ _ _ _ h => h, fun _ _ _ _ _ _ _ h => h, fun _ _ _ _ _ _ _ h => h, fun _ _ _ => fun w w' v hG h => h.keep hG hoffk.out, fun _ _ _ => fun _ _ _ _ h => h, trivial⟩
    case startK => exact ⟨⟨fun _ => (Below.refl _ _).drew, fun h => by simp at h⟩, fun h => by simp at h⟩
    case eachK =>
      refine ⟨?_, ?_, ?_, ?_, ?_, ?_, ?_, ?_, ?_, trivial⟩
      -- 0: slot 76 := move t10
      · intro w L f hC hLi hLd hLn hF
        obtain ⟨d10, _⟩ := hF
        have d10 : f 10 = .pointer (some ⟨g2, 0, none⟩) := d10
        refine Step2.live rfl ?_
        exact relUpon_value (v := f 10) rfl (hC) (Writes.refl _ _) d10
      -- 1: slot 77 := nilCheck t76
      · intro w L f hC hLi hLd hLn hF
        obtain ⟨d76, _⟩ := hF
        have d76 : f 76 = .pointer (some ⟨g2, 0, none⟩) := d76
        refine Step2.live rfl ?_
        have ev : ∀ t, evalOf f (.tmp t) = f t := fun _ => rfl
        have ec : ∀ c, evalOf f (.const c) = c := fun _ => rfl
        refine relUpon_value ?_ (hC) (Writes.refl _ _) rfl
        go_simp
      -- 2: slot 78 := fieldAddr 30 t77 0
      · intro w L f hC hLi hLd hLn hF
        obtain ⟨d77, _⟩ := hF
        have d77 : f 77 = .pointer (some ⟨g2, 0, none⟩) := d77
        refine Step2.live rfl ?_
        have ev : ∀ t, evalOf f (.tmp t) = f t := fun _ => rfl
        have ec : ∀ c, evalOf f (.const c) = c := fun _ => rfl
        refine relUpon_value ?_ (hC) (Writes.refl _ _) rfl
        go_simp
      -- 3: slot 79 := move t0
      · intro w L f hC hLi hLd hLn hF
        obtain ⟨d0, _⟩ := hF
        have d0 : f 0 = .slice (some ⟨b, off, none⟩) ns.length c1 := d0
        refine Step2.live rfl ?_
        exact relUpon_value (v := f 0) rfl (hC) (Writes.refl _ _) d0
      -- 4: slot 80 := move t12
      · intro w L f hC hLi hLd hLn hF
        obtain ⟨d12, _⟩ := hF
        have d12 : f 12 = .int .i64 k := d12
        refine Step2.live rfl ?_
        exact relUpon_value (v := f 12) rfl (hC) (Writes.refl _ _) d12
      -- 5: slot 81 := indexAddr 47 t79 t80
      · intro w L f hC hLi hLd hLn hF
        obtain ⟨d79, d80, _⟩ := hF
        have d79 : f 79 = .slice (some ⟨b, off, none⟩) ns.length c1 := d79
        have d80 : f 80 = .int .i64 k := d80
        refine Step2.live rfl ?_
        have ev : ∀ t, evalOf f (.tmp t) = f t := fun _ => rfl
        have ec : ∀ c, evalOf f (.const c) = c := fun _ => rfl
        have ef : ∀ g, evalOf f (.func g) = .func (.func g) #[] #[] := fun _ => rfl
        refine relUpon_value ?_ hC (Writes.refl _ _) rfl
        go_simp
      -- 6: slot 82 := load 37 t81
      · intro w L f hC hLi hLd hLn hF
        obtain ⟨d81, _⟩ := hF
        have d81 : f 81 = .pointer (some ⟨b, off + k, none⟩) := d81
        refine Step2.live rfl ?_
        have h8 : L 8 = false := by
          cases h : L 8 with
          | false => rfl
          | true => have := hC.2 h; rw [hLn 7 (by simp)] at this; cases this
        have hcell := ((hC.1.m h8).cell (p := ⟨b, off + k, none⟩) hbr.out).trans hcell0.out
        have ev : ∀ t, evalOf f (.tmp t) = f t := fun _ => rfl
        have ec : ∀ c, evalOf f (.const c) = c := fun _ => rfl
        have ef : ∀ g, evalOf f (.func g) = .func (.func g) #[] #[] := fun _ => rfl
        refine relUpon_value ?_ hC (Writes.refl _ _) rfl
        go_simp
      -- 7: slot 83 := buildSlice 47 1 #[(0, t82)]
      · intro w L f hC hLi hLd hLn hF
        obtain ⟨d82, _⟩ := hF
        have d82 : f 82 = .int .u64 (xk : Nat) := d82
        refine Step2.live rfl ?_
        have ev : ∀ t, evalOf f (.tmp t) = f t := fun _ => rfl
        have ec : ∀ c, evalOf f (.const c) = c := fun _ => rfl
        have ef : ∀ g, evalOf f (.func g) = .func (.func g) #[] #[] := fun _ => rfl
        refine relUpon_value (w' := w.alloc (.cells #[.int .u64 (xk : Nat)] 37)) (v := .slice (some ⟨w.heap.size, 0, none⟩) 1 1) (by go_simp) ⟨hC.1.alloc (hLn 8 (by simp)) _, fun _ => rfl⟩ (Writes.alloc _ _ _) ⟨_, rfl, (hC.1.m (hLn 8 (by simp))).size, Holds.new _ _ _⟩
      -- 8: slot 84 := call { value (Operand.func 27), args := #[t78, t83], argTypes := #[28, 47] }
      · intro w L f hC hLi hLd hLn hF
        obtain ⟨d78, d83, _⟩ := hF
        have d78 : f 78 = .pointer (some ⟨g2, 0, none⟩) := d78
        refine Step2.live rfl ?_
        obtain ⟨kn, e0, hkn, hrow⟩ := d83
        have ev : ∀ t, evalOf f (.tmp t) = f t := fun _ => rfl
        have ec : ∀ c, evalOf f (.const c) = c := fun _ => rfl
        have ef : ∀ g, evalOf f (.func g) = .func (.func g) #[] #[] := fun _ => rfl
        refine relUpon_call (f := 27) (args := #[.pointer (some ⟨g2, 0, none⟩), .slice (some ⟨kn, 0, none⟩) 1 1]) (w := w) (by go_simp) (num_put (hC.1.m hLi) hp.out.y hp.out.b.size hrow hkn hxk.out hcl.out) ?_
        rintro e w1 ⟨hw1, hw2⟩
        exact ⟨_, hw1.1, ⟨⟨fun e => by simp at e, fun _ => by have := hw1.1; subst this; exact hw1⟩, fun _ => hLd 7 (by decide)⟩, hw2, trivial⟩
    case finK =>
      intro x w' hC hV
      have hpn := hnx.out w' (hC.1.d rfl)
      clear hV hC
      simp only [framed]
      go_wp2
      go_roundw
      case rel => exact ⟨k + 1, by omega, by go_num, hpn⟩
      case measure => simp [intOf]; omega

  obtain rfl : k = ns.length := by omega
  rw [List.take_length] at hp
  have hp := Lib.hid hp
  rename_i hp'
  clear hp'
  obtain ⟨M1, hM1⟩ : ∃ L, L = c0 ++ ns.flatMap numE := ⟨_, rfl⟩
  rw [← hM1] at hp
  have hl12 : Hid (M1.length ≤ 200) := Lib.hid (by rw [hM1, List.length_append]; have := hl02.out; have := flat_len_all numE 10 ns fun n h => numE_len10 n (p1.out n h); omega)
  have hM1 := Lib.hid hM1
  rename_i hM'
  clear hM'
  go_wp2_with fail
  go_loopw [13] (fun i wr => ∃ k : Nat, k ≤ is.length ∧ i = .int .i64 k ∧ ∃ u, Pair W wr g1 g2 v7 u L7 (M1 ++ (is.take k).flatMap intE)) (fun i _ => is.length - (intOf i).toNat)
  case atStart => exact ⟨0, by omega, rfl, _, by simpa using hp.out⟩
  clear hp
  obtain ⟨k, hk, rfl, u, hp⟩ := hrel
  by_cases hlt : k < is.length
  case pos =>
    obtain ⟨b, off, rfl, hb, hcell0⟩ := Row.at_ (Row.below h2.out hp.b) (k := k) (by simpa using hlt)
    have hbr := Lib.hid (Nat.lt_of_lt_of_le hb hp.b.size)
    have hcell0 : Hid (wr.cell? ⟨b, off + k, none⟩ = some (.int .i64 is[k])) := Lib.hid (by rw [hcell0]; simp [i64V])
    rename_i hcell0'
    clear hcell0'
    have hft := Lib.hid (flat_take intE is k hlt)
    have hcl : (M1 ++ (is.take k).flatMap intE).length ≤ 99999 := by
      rw [List.length_append]
      have := hl12.out
      have := flat_len' intE 10 is (fun n h => numE_len10 _ (zigN_lt n (p2.out n h).1 (p2.out n h).2)) k
      have : 10 * k ≤ 10 * 20 := Nat.mul_le_mul_left _ (by omega)
      omega
    have hxk := Lib.hid (p2.out is[k] (List.getElem_mem hlt))
    generalize hxe : is[k] = xk at *
    clear hxe
    have hnx : Hid (∀ w', Wrote wr W.heap.size g2 30 u (M1 ++ (is.take k).flatMap intE ++ intE xk) (.returned (.tuple #[])) w' → ∃ u', Pair W w' g1 g2 v7 u' L7 (M1 ++ (is.take (k + 1)).flatMap intE)) := Lib.hid fun w' h => by
      rw [hft.out, ← List.append_assoc]
      exact (hp.right h).2
    generalize M1 ++ (is.take k).flatMap intE = cur at *
    have hoffk : Hid (∀ k, wr.heap.size ≤ k → some k ∉ [some g2, u.ownBlock]) := Lib.hid fun k hk => hp.y.lt hk
    have hp := Lib.hid hp
    rename_i hp'
    clear hp'
    have hcl := Lib.hid (show cur.length ≤ 99999999980 from by omega)
    rename_i hcl'
    clear hcl'
    go_wp2_with fail
    -- THE REGION THAT DRAWS ITS ORDER, BY ONE LEXICAL WALK OVER GENERIC VALUES (written by relgen.py)
    refine wp_region_tab ((fun _ v => v = .pointer (some ⟨g2, 0, none⟩)) ::
      (fun _ v => v = .pointer (some ⟨g2, 0, none⟩)) ::
      (fun _ v => v = .pointer (some ⟨g2, 0, none⟩)) ::
      (fun _ v => v = .slice (some ⟨b, off, none⟩) is.length c2) ::
      (fun _ v => v = .int .i64 k) ::
      (fun _ v => v = .pointer (some ⟨b, off + k, none⟩)) ::
      (fun _ v => v = .int .i64 xk) ::
      (fun w v => NewRow wr.heap.size 2 (.int .i64 xk) w v) ::
      (fun _ _ => True) :: [])
      (⟨[(10, none)], 0, []⟩ :: ⟨[(91, some 0)], 0, []⟩ :: ⟨[(92, some 1)], 0, []⟩ :: ⟨[(1, none)], 0, []⟩ :: ⟨[(13, none)], 0, []⟩ :: ⟨[(94, some 3), (95, some 4)], 0, []⟩ :: ⟨[(96, some 5)], 0, [7]⟩ :: ⟨[(97, some 6)], 0, [8]⟩ :: ⟨[(93, some 2), (98, some 7)], 0, []⟩ :: [])
      (none :: none :: none :: none :: none :: none :: none :: none :: none :: none :: none :: none :: none :: none :: none :: none :: none :: none :: none :: none :: none :: none :: none :: none :: none :: none :: none :: none :: none :: none :: none :: none :: none :: none :: none :: none :: none :: none :: none :: none :: none :: none :: none :: none :: none :: none :: none :: none :: none :: none :: none :: none :: none :: none :: none :: none :: none :: none :: none :: none :: none :: none :: none :: none :: none :: none :: none :: none :: none :: none :: none :: none :: none :: none :: none :: none :: none :: none :: none :: none :: none :: none :: none :: none :: none :: none :: none :: none :: none :: none :: none :: some 0 :: some 1 :: some 2 :: some 3 :: some 4 :: some 5 :: some 6 :: some 7 :: some 8 :: [])
      (fun L w' => PutAt wr W.heap.size g2 30 u (cur ++ intE xk) (L 8) w' ∧ (L 8 = true → L 7 = true)) (fun _ w w' => Writes [some g2, u.ownBlock] w w') ?mixK ?okK ?tabK ?frK ?inK ?keptK ?startK ?eachK ?finK
    case mixK => kernel_rfl
    case okK => kernel_rfl
    case tabK => kernel_rfl
    case frK => kernel_rfl
    case inK => rfl
    case keptK => exact ⟨fun _ _ _ _ _ _ _ h => h, fun _ _ _ _ _ _ _ h => h, fun _ _ _ _ _ _ _ h => h, fun _ _ _ _ _ _ _ h => h, fun _ _ _ _ _ _ _ h => h, fun _ _ _ _ _ _ _ h => h, fun _ _ _ _ _ _ _ h => h, fun _ _ _ => fun w w' v hG h => h.keep hG hoffk.out, fun _ _ _ => fun _ _ _ _ h => h, trivial⟩
    case startK => exact ⟨⟨fun _ => (Below.refl _ _).drew, fun h => by simp at h⟩, fun h => by simp at h⟩
    case eachK =>
      refine ⟨?_, ?_, ?_, ?_, ?_, ?_, ?_, ?_, ?_, trivial⟩
      -- 0: slot 91 := move t10
      · intro w L f hC hLi hLd hLn hF
        obtain ⟨d10, _⟩ := hF
        have d10 : f 10 = .pointer (some ⟨g2, 0, none⟩) := d10
        refine Step2.live rfl ?_
        exact relUpon_value (v := f 10) rfl (hC) (Writes.refl _ _) d10
      -- 1: slot 92 := nilCheck t91
      · intro w L f hC hLi hLd hLn hF
        obtain ⟨d91, _⟩ := hF
        have d91 : f 91 = .pointer (some ⟨g2, 0, none⟩) := d91
        refine Step2.live rfl ?_
        have ev : ∀ t, evalOf f (.tmp t) = f t := fun _ => rfl
        have ec : ∀ c, evalOf f (.const c) = c := fun _ => rfl
        refine relUpon_value ?_ (hC) (Writes.refl _ _) rfl
        go_simp
      -- 2: slot 93 := fieldAddr 30 t92 0
      · intro w L f hC hLi hLd hLn hF
        obtain ⟨d92, _⟩ := hF
        have d92 : f 92 = .pointer (some ⟨g2, 0, none⟩) := d92
        refine Step2.live rfl ?_
        have ev : ∀ t, evalOf f (.tmp t) = f t := fun _ => rfl
        have ec : ∀ c, evalOf f (.const c) = c := fun _ => rfl
        refine relUpon_value ?_ (hC) (Writes.refl _ _) rfl
        go_simp
      -- 3: slot 94 := move t1
      · intro w L f hC hLi hLd hLn hF
        obtain ⟨d1, _⟩ := hF
        have d1 : f 1 = .slice (some ⟨b, off, none⟩) is.length c2 := d1
        refine Step2.live rfl ?_
        exact relUpon_value (v := f 1) rfl (hC) (Writes.refl _ _) d1
      -- 4: slot 95 := move t13
      · intro w L f hC hLi hLd hLn hF
        obtain ⟨d13, _⟩ := hF
        have d13 : f 13 = .int .i64 k := d13
        refine Step2.live rfl ?_
        exact relUpon_value (v := f 13) rfl (hC) (Writes.refl _ _) d13
      -- 5: slot 96 := indexAddr 48 t94 t95
      · intro w L f hC hLi hLd hLn hF
        obtain ⟨d94, d95, _⟩ := hF
        have d94 : f 94 = .slice (some ⟨b, off, none⟩) is.length c2 := d94
        have d95 : f 95 = .int .i64 k := d95
        refine Step2.live rfl ?_
        have ev : ∀ t, evalOf f (.tmp t) = f t := fun _ => rfl
        have ec : ∀ c, evalOf f (.const c) = c := fun _ => rfl
        have ef : ∀ g, evalOf f (.func g) = .func (.func g) #[] #[] := fun _ => rfl
        refine relUpon_value ?_ hC (Writes.refl _ _) rfl
        go_simp
      -- 6: slot 97 := load 2 t96
      · intro w L f hC hLi hLd hLn hF
        obtain ⟨d96, _⟩ := hF
        have d96 : f 96 = .pointer (some ⟨b, off + k, none⟩) := d96
        refine Step2.live rfl ?_
        have h8 : L 8 = false := by
          cases h : L 8 with
          | false => rfl
          | true => have := hC.2 h; rw [hLn 7 (by simp)] at this; cases this
        have hcell := ((hC.1.m h8).cell (p := ⟨b, off + k, none⟩) hbr.out).trans hcell0.out
        have ev : ∀ t, evalOf f (.tmp t) = f t := fun _ => rfl
        have ec : ∀ c, evalOf f (.const c) = c := fun _ => rfl
        have ef : ∀ g, evalOf f (.func g) = .func (.func g) #[] #[] := fun _ => rfl
        refine relUpon_value ?_ hC (Writes.refl _ _) rfl
        go_simp
      -- 7: slot 98 := buildSlice 48 1 #[(0, t97)]
      · intro w L f hC hLi hLd hLn hF
        obtain ⟨d97, _⟩ := hF
        have d97 : f 97 = .int .i64 xk := d97
        refine Step2.live rfl ?_
        have ev : ∀ t, evalOf f (.tmp t) = f t := fun _ => rfl
        have ec : ∀ c, evalOf f (.const c) = c := fun _ => rfl
        have ef : ∀ g, evalOf f (.func g) = .func (.func g) #[] #[] := fun _ => rfl
        refine relUpon_value (w' := w.alloc (.cells #[.int .i64 xk] 2)) (v := .slice (some ⟨w.heap.size, 0, none⟩) 1 1) (by go_simp) ⟨hC.1.alloc (hLn 8 (by simp)) _, fun _ => rfl⟩ (Writes.alloc _ _ _) ⟨_, rfl, (hC.1.m (hLn 8 (by simp))).size, Holds.new _ _ _⟩
      -- 8: slot 99 := call { value (Operand.func 16), args := #[t93, t98], argTypes := #[28, 48] }
      · intro w L f hC hLi hLd hLn hF
        obtain ⟨d93, d98, _⟩ := hF
        have d93 : f 93 = .pointer (some ⟨g2, 0, none⟩) := d93
        refine Step2.live rfl ?_
        obtain ⟨kn, e0, hkn, hrow⟩ := d98
        have ev : ∀ t, evalOf f (.tmp t) = f t := fun _ => rfl
        have ec : ∀ c, evalOf f (.const c) = c := fun _ => rfl
        have ef : ∀ g, evalOf f (.func g) = .func (.func g) #[] #[] := fun _ => rfl
        refine relUpon_call (f := 16) (args := #[.pointer (some ⟨g2, 0, none⟩), .slice (some ⟨kn, 0, none⟩) 1 1]) (w := w) (by go_simp) (int_put (hC.1.m hLi) hp.out.y hp.out.b.size hrow hkn hxk.out hcl.out) ?_
        rintro e w1 ⟨hw1, hw2⟩
        exact ⟨_, hw1.1, ⟨⟨fun e => by simp at e, fun _ => by have := hw1.1; subst this; exact hw1⟩, fun _ => hLd 7 (by decide)⟩, hw2, trivial⟩
    case finK =>
      intro x w' hC hV
      have hpn := hnx.out w' (hC.1.d rfl)
      clear hV hC
      simp only [framed]
      go_wp2
      go_roundw
      case rel => exact ⟨k + 1, by omega, by go_num, hpn⟩
      case measure => simp [intOf]; omega

  obtain rfl : k = is.length := by omega
  rw [List.take_length] at hp
  have hp := Lib.hid hp
  rename_i hp'
  clear hp'
  obtain ⟨M2, hM2⟩ : ∃ L, L = M1 ++ is.flatMap intE := ⟨_, rfl⟩
  rw [← hM2] at hp
  have hl22 : Hid (M2.length ≤ 400) := Lib.hid (by rw [hM2, List.length_append]; have := hl12.out; have := flat_len_all intE 10 is fun n h => numE_len10 _ (zigN_lt n (p2.out n h).1 (p2.out n h).2); omega)
  have hM2 := Lib.hid hM2
  rename_i hM'
  clear hM'
  go_wp2_with fail
  go_loopw [14] (fun i wr => ∃ k : Nat, k ≤ ss.length ∧ i = .int .i64 k ∧ ∃ u, Pair W wr g1 g2 v7 u L7 (M2 ++ (ss.take k).flatMap txtE)) (fun i _ => ss.length - (intOf i).toNat)
  case atStart => exact ⟨0, by omega, rfl, _, by simpa using hp.out⟩
  clear hp
  obtain ⟨k, hk, rfl, u, hp⟩ := hrel
  by_cases hlt : k < ss.length
  case pos =>
    obtain ⟨b, off, rfl, hb, hcell0⟩ := Row.at_ (Row.below h3.out hp.b) (k := k) (by simpa using hlt)
    have hbr := Lib.hid (Nat.lt_of_lt_of_le hb hp.b.size)
    have hcell0 : Hid (wr.cell? ⟨b, off + k, none⟩ = some (.string ss[k])) := Lib.hid (by rw [hcell0]; simp)
    rename_i hcell0'
    clear hcell0'
    have hft := Lib.hid (flat_take txtE ss k hlt)
    have hcl : (M2 ++ (ss.take k).flatMap txtE).length ≤ 99999 := by
      rw [List.length_append]
      have := hl22.out
      have := flat_len' txtE 110 ss hL0.out k
      have : 110 * k ≤ 110 * 20 := Nat.mul_le_mul_left _ (by omega)
      omega
    have hxk := Lib.hid (show ss[k].size ≤ 10000000000 from by have := hs.out ss[k] (List.getElem_mem hlt); omega)
    generalize hxe : ss[k] = xk at *
    clear hxe
    have hnx : Hid (∀ w', Wrote wr W.heap.size g2 30 u (M2 ++ (ss.take k).flatMap txtE ++ txtE xk) (.returned (.tuple #[])) w' → ∃ u', Pair W w' g1 g2 v7 u' L7 (M2 ++ (ss.take (k + 1)).flatMap txtE)) := Lib.hid fun w' h => by
      rw [hft.out, ← List.append_assoc]
      exact (hp.right h).2
    generalize M2 ++ (ss.take k).flatMap txtE = cur at *
    have hoffk : Hid (∀ k, wr.heap.size ≤ k → some k ∉ [some g2, u.ownBlock]) := Lib.hid fun k hk => hp.y.lt hk
    have hp := Lib.hid hp
    rename_i hp'
    clear hp'
    have hcl := Lib.hid (show cur.length + xk.size ≤ 99999999980 from by have := hxk.out; omega)
    rename_i hcl'
    clear hcl'
    go_wp2_with fail
    -- THE REGION THAT DRAWS ITS ORDER, BY ONE LEXICAL WALK OVER GENERIC VALUES (written by relgen.py)
    refine wp_region_tab ((fun _ v => v = .pointer (some ⟨g2, 0, none⟩)) ::
      (fun _ v => v = .pointer (some ⟨g2, 0, none⟩)) ::
      (fun _ v => v = .pointer (some ⟨g2, 0, none⟩)) ::
      (fun _ v => v = .slice (some ⟨b, off, none⟩) ss.length c3) ::
      (fun _ v => v = .int .i64 k) ::
      (fun _ v => v = .pointer (some ⟨b, off + k, none⟩)) ::
      (fun _ v => v = .string xk) ::
      (fun w v => NewRow wr.heap.size 9 (.string xk) w v) ::
      (fun _ _ => True) :: [])
      (⟨[(10, none)], 0, []⟩ :: ⟨[(106, some 0)], 0, []⟩ :: ⟨[(107, some 1)], 0, []⟩ :: ⟨[(2, none)], 0, []⟩ :: ⟨[(14, none)], 0, []⟩ :: ⟨[(109, some 3), (110, some 4)], 0, []⟩ :: ⟨[(111, some 5)], 0, [7]⟩ :: ⟨[(112, some 6)], 0, [8]⟩ :: ⟨[(108, some 2), (113, some 7)], 0, []⟩ :: [])
      (none :: none :: none :: none :: none :: none :: none :: none :: none :: none :: none :: none :: none :: none :: none :: none :: none :: none :: none :: none :: none :: none :: none :: none :: none :: none :: none :: none :: none :: none :: none :: none :: none :: none :: none :: none :: none :: none :: none :: none :: none :: none :: none :: none :: none :: none :: none :: none :: none :: none :: none :: none :: none :: none :: none :: none :: none :: none :: none :: none :: none :: none :: none :: none :: none :: none :: none :: none :: none :: none :: none :: none :: none :: none :: none :: none :: none :: none :: none :: none :: none :: none :: none :: none :: none :: none :: none :: none :: none :: none :: none :: none :: none :: none :: none :: none :: none :: none :: none :: none :: none :: none :: none :: none :: none :: none :: some 0 :: some 1 :: some 2 :: some 3 :: some 4 :: some 5 :: some 6 :: some 7 :: some 8 :: [])
      (fun L w' => PutAt wr W.heap.size g2 30 u (cur ++ txtE xk) (L 8) w' ∧ (L 8 = true → L 7 = true)) (fun _ w w' => Writes [some g2, u.ownBlock] w w') ?mixK ?okK ?tabK ?frK ?inK ?keptK ?startK ?eachK ?finK
    case mixK => kernel_rfl
    case okK => kernel_rfl
    case tabK => kernel_rfl
    case frK => kernel_rfl
    case inK => rfl
    case keptK => exact ⟨fun _ _ _ _ _ _ _ h => h, fun _ _ _ _ _ _ _ h => h, fun _ _ _ _ _ _ _ h => h, fun _ _ _ _ _ _ _ h => h, fun _ _ _ _ _ _ _ h => h, fun _ _ _ _ _ _ _ h => h, fun _ _ _ _ _ _ _ h => h, fun _ _ _ => fun w w' v hG h => h.keep hG hoffk.out, fun _ _ _ => fun _ _ _ _ h => h, trivial⟩
    case startK => exact ⟨⟨fun _ => (Below.refl _ _).drew, fun h => by simp at h⟩, fun h => by simp at h⟩
    case eachK =>
      refine ⟨?_, ?_, ?_, ?_, ?_, ?_, ?_, ?_, ?_, trivial⟩
      -- 0: slot 106 := move t10
      · intro w L f hC hLi hLd hLn hF
        obtain ⟨d10, _⟩ := hF
        have d10 : f 10 = .pointer (some ⟨g2, 0, none⟩) := d10
        refine Step2.live rfl ?_
        exact relUpon_value (v := f 10) rfl (hC) (Writes.refl _ _) d10
      -- 1: slot 107 := nilCheck t106
      · intro w L f hC hLi hLd hLn hF
        obtain ⟨d106, _⟩ := hF
        have d106 : f 106 = .pointer (some ⟨g2, 0, none⟩) := d106
        refine Step2.live rfl ?_
        have ev : ∀ t, evalOf f (.tmp t) = f t := fun _ => rfl
        have ec : ∀ c, evalOf f (.const c) = c := fun _ => rfl
        refine relUpon_value ?_ (hC) (Writes.refl _ _) rfl
        go_simp
      -- 2: slot 108 := fieldAddr 30 t107 0
      · intro w L f hC hLi hLd hLn hF
        obtain ⟨d107, _⟩ := hF
        have d107 : f 107 = .pointer (some ⟨g2, 0, none⟩) := d107
        refine Step2.live rfl ?_
        have ev : ∀ t, evalOf f (.tmp t) = f t := fun _ => rfl
        have ec : ∀ c, evalOf f (.const c) = c := fun _ => rfl
        refine relUpon_value ?_ (hC) (Writes.refl _ _) rfl
        go_simp
      -- 3: slot 109 := move t2
      · intro w L f hC hLi hLd hLn hF
        obtain ⟨d2, _⟩ := hF
        have d2 : f 2 = .slice (some ⟨b, off, none⟩) ss.length c3 := d2
        refine Step2.live rfl ?_
        exact relUpon_value (v := f 2) rfl (hC) (Writes.refl _ _) d2
      -- 4: slot 110 := move t14
      · intro w L f hC hLi hLd hLn hF
        obtain ⟨d14, _⟩ := hF
        have d14 : f 14 = .int .i64 k := d14
        refine Step2.live rfl ?_
        exact relUpon_value (v := f 14) rfl (hC) (Writes.refl _ _) d14
      -- 5: slot 111 := indexAddr 40 t109 t110
      · intro w L f hC hLi hLd hLn hF
        obtain ⟨d109, d110, _⟩ := hF
        have d109 : f 109 = .slice (some ⟨b, off, none⟩) ss.length c3 := d109
        have d110 : f 110 = .int .i64 k := d110
        refine Step2.live rfl ?_
        have ev : ∀ t, evalOf f (.tmp t) = f t := fun _ => rfl
        have ec : ∀ c, evalOf f (.const c) = c := fun _ => rfl
        have ef : ∀ g, evalOf f (.func g) = .func (.func g) #[] #[] := fun _ => rfl
        refine relUpon_value ?_ hC (Writes.refl _ _) rfl
        go_simp
      -- 6: slot 112 := load 9 t111
      · intro w L f hC hLi hLd hLn hF
        obtain ⟨d111, _⟩ := hF
        have d111 : f 111 = .pointer (some ⟨b, off + k, none⟩) := d111
        refine Step2.live rfl ?_
        have h8 : L 8 = false := by
          cases h : L 8 with
          | false => rfl
          | true => have := hC.2 h; rw [hLn 7 (by simp)] at this; cases this
        have hcell := ((hC.1.m h8).cell (p := ⟨b, off + k, none⟩) hbr.out).trans hcell0.out
        have ev : ∀ t, evalOf f (.tmp t) = f t := fun _ => rfl
        have ec : ∀ c, evalOf f (.const c) = c := fun _ => rfl
        have ef : ∀ g, evalOf f (.func g) = .func (.func g) #[] #[] := fun _ => rfl
        refine relUpon_value ?_ hC (Writes.refl _ _) rfl
        go_simp
      -- 7: slot 113 := buildSlice 40 1 #[(0, t112)]
      · intro w L f hC hLi hLd hLn hF
        obtain ⟨d112, _⟩ := hF
        have d112 : f 112 = .string xk := d112
        refine Step2.live rfl ?_
        have ev : ∀ t, evalOf f (.tmp t) = f t := fun _ => rfl
        have ec : ∀ c, evalOf f (.const c) = c := fun _ => rfl
        have ef : ∀ g, evalOf f (.func g) = .func (.func g) #[] #[] := fun _ => rfl
        refine relUpon_value (w' := w.alloc (.cells #[.string xk] 9)) (v := .slice (some ⟨w.heap.size, 0, none⟩) 1 1) (by go_simp) ⟨hC.1.alloc (hLn 8 (by simp)) _, fun _ => rfl⟩ (Writes.alloc _ _ _) ⟨_, rfl, (hC.1.m (hLn 8 (by simp))).size, Holds.new _ _ _⟩
      -- 8: slot 114 := call { value (Operand.func 22), args := #[t108, t113], argTypes := #[28, 40] }
      · intro w L f hC hLi hLd hLn hF
        obtain ⟨d108, d113, _⟩ := hF
        have d108 : f 108 = .pointer (some ⟨g2, 0, none⟩) := d108
        refine Step2.live rfl ?_
        obtain ⟨kn, e0, hkn, hrow⟩ := d113
        have ev : ∀ t, evalOf f (.tmp t) = f t := fun _ => rfl
        have ec : ∀ c, evalOf f (.const c) = c := fun _ => rfl
        have ef : ∀ g, evalOf f (.func g) = .func (.func g) #[] #[] := fun _ => rfl
        refine relUpon_call (f := 22) (args := #[.pointer (some ⟨g2, 0, none⟩), .slice (some ⟨kn, 0, none⟩) 1 1]) (w := w) (by go_simp) (text_put (hC.1.m hLi) hp.out.y hp.out.b.size hrow hkn hxk.out hcl.out) ?_
        rintro e w1 ⟨hw1, hw2⟩
        exact ⟨_, hw1.1, ⟨⟨fun e => by simp at e, fun _ => by have := hw1.1; subst this; exact hw1⟩, fun _ => hLd 7 (by decide)⟩, hw2, trivial⟩
    case finK =>
      intro x w' hC hV
      have hpn := hnx.out w' (hC.1.d rfl)
      clear hV hC
      simp only [framed]
      go_wp2
      go_roundw
      case rel => exact ⟨k + 1, by omega, by go_num, hpn⟩
      case measure => simp [intOf]; omega

  obtain rfl : k = ss.length := by omega
  rw [List.take_length] at hp
  have hp := Lib.hid hp
  rename_i hp'
  clear hp'
  obtain ⟨M3, hM3⟩ : ∃ L, L = M2 ++ ss.flatMap txtE := ⟨_, rfl⟩
  rw [← hM3] at hp
  have hl32 : Hid (M3.length ≤ 2600) := Lib.hid (by rw [hM3, List.length_append]; have := hl22.out; have := flat_len_all txtE 110 ss hL0.out; omega)
  have hM3 := Lib.hid hM3
  rename_i hM'
  clear hM'
  go_wp2_with fail
  go_loopw [15] (fun i wr => ∃ k : Nat, k ≤ bs.length ∧ i = .int .i64 k ∧ ∃ u, Pair W wr g1 g2 v7 u L7 (M3 ++ (bs.take k).flatMap boolE)) (fun i _ => bs.length - (intOf i).toNat)
  case atStart => exact ⟨0, by omega, rfl, _, by simpa using hp.out⟩
  clear hp
  obtain ⟨k, hk, rfl, u, hp⟩ := hrel
  by_cases hlt : k < bs.length
  case pos =>
    obtain ⟨b, off, rfl, hb, hcell0⟩ := Row.at_ (Row.below h4.out hp.b) (k := k) (by simpa using hlt)
    have hbr := Lib.hid (Nat.lt_of_lt_of_le hb hp.b.size)
    have hcell0 : Hid (wr.cell? ⟨b, off + k, none⟩ = some (.bool bs[k])) := Lib.hid (by rw [hcell0]; simp)
    rename_i hcell0'
    clear hcell0'
    have hft := Lib.hid (flat_take boolE bs k hlt)
    have hcl : (M3 ++ (bs.take k).flatMap boolE).length ≤ 99999 := by
      rw [List.length_append]
      have := hl32.out
      have := flat_len' boolE 1 bs (fun b _ => by simp [boolE]) k
      have : 1 * k ≤ 1 * 20 := Nat.mul_le_mul_left _ (by omega)
      omega
    have hxk := Lib.hid (trivial)
    generalize hxe : bs[k] = xk at *
    clear hxe
    have hnx : Hid (∀ w', Wrote wr W.heap.size g2 30 u (M3 ++ (bs.take k).flatMap boolE ++ boolE xk) (.returned (.tuple #[])) w' → ∃ u', Pair W w' g1 g2 v7 u' L7 (M3 ++ (bs.take (k + 1)).flatMap boolE)) := Lib.hid fun w' h => by
      rw [hft.out, ← List.append_assoc]
      exact (hp.right h).2
    generalize M3 ++ (bs.take k).flatMap boolE = cur at *
    have hoffk : Hid (∀ k, wr.heap.size ≤ k → some k ∉ [some g2, u.ownBlock]) := Lib.hid fun k hk => hp.y.lt hk
    have hp := Lib.hid hp
    rename_i hp'
    clear hp'
    have hcl := Lib.hid (show cur.length ≤ 99999999980 from by omega)
    rename_i hcl'
    clear hcl'
    go_wp2_with fail
    -- THE REGION THAT DRAWS ITS ORDER, BY ONE LEXICAL WALK OVER GENERIC VALUES (written by relgen.py)
    refine wp_region_tab ((fun _ v => v = .pointer (some ⟨g2, 0, none⟩)) ::
      (fun _ v => v = .pointer (some ⟨g2, 0, none⟩)) ::
      (fun _ v => v = .pointer (some ⟨g2, 0, none⟩)) ::
      (fun _ v => v = .slice (some ⟨b, off, none⟩) bs.length c4) ::
      (fun _ v => v = .int .i64 k) ::
      (fun _ v => v = .pointer (some ⟨b, off + k, none⟩)) ::
      (fun _ v => v = .bool xk) ::
      (fun w v => NewRow wr.heap.size 4 (.bool xk) w v) ::
      (fun _ _ => True) :: [])
      (⟨[(10, none)], 0, []⟩ :: ⟨[(121, some 0)], 0, []⟩ :: ⟨[(122, some 1)], 0, []⟩ :: ⟨[(3, none)], 0, []⟩ :: ⟨[(15, none)], 0, []⟩ :: ⟨[(124, some 3), (125, some 4)], 0, []⟩ :: ⟨[(126, some 5)], 0, [7]⟩ :: ⟨[(127, some 6)], 0, [8]⟩ :: ⟨[(123, some 2), (128, some 7)], 0, []⟩ :: [])
      (none :: none :: none :: none :: none :: none :: none :: none :: none :: none :: none :: none :: none :: none :: none :: none :: none :: none :: none :: none :: none :: none :: none :: none :: none :: none :: none :: none :: none :: none :: none :: none :: none :: none :: none :: none :: none :: none :: none :: none :: none :: none :: none :: none :: none :: none :: none :: none :: none :: none :: none :: none :: none :: none :: none :: none :: none :: none :: none :: none :: none :: none :: none :: none :: none :: none :: none :: none :: none :: none :: none :: none :: none :: none :: none :: none :: none :: none :: none :: none :: none :: none :: none :: none :: none :: none :: none :: none :: none :: none :: none :: none :: none :: none :: none :: none :: none :: none :: none :: none :: none :: none :: none :: none :: none :: none :: none :: none :: none :: none :: none :: none :: none :: none :: none :: none :: none :: none :: none :: none :: none :: some 0 :: some 1 :: some 2 :: some 3 :: some 4 :: some 5 :: some 6 :: some 7 :: some 8 :: [])
      (fun L w' => PutAt wr W.heap.size g2 30 u (cur ++ boolE xk) (L 8) w' ∧ (L 8 = true → L 7 = true)) (fun _ w w' => Writes [some g2, u.ownBlock] w w') ?mixK ?okK ?tabK ?frK ?inK ?keptK ?startK ?eachK ?finK
    case mixK => kernel_rfl
    case okK => kernel_rfl
    case tabK => kernel_rfl
    case frK => kernel_rfl
    case inK => rfl
    case keptK => exact ⟨fun _ _ _ _ _ _ _ h => h, fun _ _ _ _ _ _ _ h => h, fun _ _ _ _ _ _ _ h => h, fun _ _ _ _ _ _ _ h => h, fun _ _ _ _ _ _ _ h => h, fun _ _ _ _ _ _ _ h => h, fun _ _ _ _ _ _ _ h => h, fun _ _ _ => fun w w' v hG h => h.keep hG hoffk.out, fun _ _ _ => fun _ _ _ _ h => h, trivial⟩
    case startK => exact ⟨⟨fun _ => (Below.refl _ _).drew, fun h => by simp at h⟩, fun h => by simp at h⟩
    case eachK =>
      refine ⟨?_, ?_, ?_, ?_, ?_, ?_, ?_, ?_, ?_, trivial⟩
      -- 0: slot 121 := move t10
      · intro w L f hC hLi hLd hLn hF
        obtain ⟨d10, _⟩ := hF
        have d10 : f 10 = .pointer (some ⟨g2, 0, none⟩) := d10
        refine Step2.live rfl ?_
        exact relUpon_value (v := f 10) rfl (hC) (Writes.refl _ _) d10
      -- 1: slot 122 := nilCheck t121
      · intro w L f hC hLi hLd hLn hF
        obtain ⟨d121, _⟩ := hF
        have d121 : f 121 = .pointer (some ⟨g2, 0, none⟩) := d121
        refine Step2.live rfl ?_
        have ev : ∀ t, evalOf f (.tmp t) = f t := fun _ => rfl
        have ec : ∀ c, evalOf f (.const c) = c := fun _ => rfl
        refine relUpon_value ?_ (hC) (Writes.refl _ _) rfl
        go_simp
      -- 2: slot 123 := fieldAddr 30 t122 0
      · intro w L f hC hLi hLd hLn hF
        obtain ⟨d122, _⟩ := hF
        have d122 : f 122 = .pointer (some ⟨g2, 0, none⟩) := d122
        refine Step2.live rfl ?_
        have ev : ∀ t, evalOf f (.tmp t) = f t := fun _ => rfl
        have ec : ∀ c, evalOf f (.const c) = c := fun _ => rfl
        refine relUpon_value ?_ (hC) (Writes.refl _ _) rfl
        go_simp
      -- 3: slot 124 := move t3
      · intro w L f hC hLi hLd hLn hF
        obtain ⟨d3, _⟩ := hF
        have d3 : f 3 = .slice (some ⟨b, off, none⟩) bs.length c4 := d3
        refine Step2.live rfl ?_
        exact relUpon_value (v := f 3) rfl (hC) (Writes.refl _ _) d3
      -- 4: slot 125 := move t15
      · intro w L f hC hLi hLd hLn hF
        obtain ⟨d15, _⟩ := hF
        have d15 : f 15 = .int .i64 k := d15
        refine Step2.live rfl ?_
        exact relUpon_value (v := f 15) rfl (hC) (Writes.refl _ _) d15
      -- 5: slot 126 := indexAddr 49 t124 t125
      · intro w L f hC hLi hLd hLn hF
        obtain ⟨d124, d125, _⟩ := hF
        have d124 : f 124 = .slice (some ⟨b, off, none⟩) bs.length c4 := d124
        have d125 : f 125 = .int .i64 k := d125
        refine Step2.live rfl ?_
        have ev : ∀ t, evalOf f (.tmp t) = f t := fun _ => rfl
        have ec : ∀ c, evalOf f (.const c) = c := fun _ => rfl
        have ef : ∀ g, evalOf f (.func g) = .func (.func g) #[] #[] := fun _ => rfl
        refine relUpon_value ?_ hC (Writes.refl _ _) rfl
        go_simp
      -- 6: slot 127 := load 4 t126
      · intro w L f hC hLi hLd hLn hF
        obtain ⟨d126, _⟩ := hF
        have d126 : f 126 = .pointer (some ⟨b, off + k, none⟩) := d126
        refine Step2.live rfl ?_
        have h8 : L 8 = false := by
          cases h : L 8 with
          | false => rfl
          | true => have := hC.2 h; rw [hLn 7 (by simp)] at this; cases this
        have hcell := ((hC.1.m h8).cell (p := ⟨b, off + k, none⟩) hbr.out).trans hcell0.out
        have ev : ∀ t, evalOf f (.tmp t) = f t := fun _ => rfl
        have ec : ∀ c, evalOf f (.const c) = c := fun _ => rfl
        have ef : ∀ g, evalOf f (.func g) = .func (.func g) #[] #[] := fun _ => rfl
        refine relUpon_value ?_ hC (Writes.refl _ _) rfl
        go_simp
      -- 7: slot 128 := buildSlice 49 1 #[(0, t127)]
      · intro w L f hC hLi hLd hLn hF
        obtain ⟨d127, _⟩ := hF
        have d127 : f 127 = .bool xk := d127
        refine Step2.live rfl ?_
        have ev : ∀ t, evalOf f (.tmp t) = f t := fun _ => rfl
        have ec : ∀ c, evalOf f (.const c) = c := fun _ => rfl
        have ef : ∀ g, evalOf f (.func g) = .func (.func g) #[] #[] := fun _ => rfl
        refine relUpon_value (w' := w.alloc (.cells #[.bool xk] 4)) (v := .slice (some ⟨w.heap.size, 0, none⟩) 1 1) (by go_simp) ⟨hC.1.alloc (hLn 8 (by simp)) _, fun _ => rfl⟩ (Writes.alloc _ _ _) ⟨_, rfl, (hC.1.m (hLn 8 (by simp))).size, Holds.new _ _ _⟩
      -- 8: slot 129 := call { value (Operand.func 28), args := #[t123, t128], argTypes := #[28, 49] }
      · intro w L f hC hLi hLd hLn hF
        obtain ⟨d123, d128, _⟩ := hF
        have d123 : f 123 = .pointer (some ⟨g2, 0, none⟩) := d123
        refine Step2.live rfl ?_
        obtain ⟨kn, e0, hkn, hrow⟩ := d128
        have ev : ∀ t, evalOf f (.tmp t) = f t := fun _ => rfl
        have ec : ∀ c, evalOf f (.const c) = c := fun _ => rfl
        have ef : ∀ g, evalOf f (.func g) = .func (.func g) #[] #[] := fun _ => rfl
        refine relUpon_call (f := 28) (args := #[.pointer (some ⟨g2, 0, none⟩), .slice (some ⟨kn, 0, none⟩) 1 1]) (w := w) (by go_simp) (bool_put (hC.1.m hLi) hp.out.y hp.out.b.size hrow hkn hcl.out) ?_
        rintro e w1 ⟨hw1, hw2⟩
        exact ⟨_, hw1.1, ⟨⟨fun e => by simp at e, fun _ => by have := hw1.1; subst this; exact hw1⟩, fun _ => hLd 7 (by decide)⟩, hw2, trivial⟩
    case finK =>
      intro x w' hC hV
      have hpn := hnx.out w' (hC.1.d rfl)
      clear hV hC
      simp only [framed]
      go_wp2
      go_roundw
      case rel => exact ⟨k + 1, by omega, by go_num, hpn⟩
      case measure => simp [intOf]; omega

  obtain rfl : k = bs.length := by omega
  rw [List.take_length] at hp
  have hp := Lib.hid hp
  rename_i hp'
  clear hp'
  obtain ⟨M4, hM4⟩ : ∃ L, L = M3 ++ bs.flatMap boolE := ⟨_, rfl⟩
  rw [← hM4] at hp
  have hl42 : Hid (M4.length ≤ 2620) := Lib.hid (by rw [hM4, List.length_append]; have := hl32.out; have := flat_len_all boolE 1 bs (fun b _ => by simp [boolE]); omega)
  have hM4 := Lib.hid hM4
  rename_i hM'
  clear hM'
  have e1 : M1 = L4 := hM1.out.trans hL4.out.symm
  have e2 : M2 = L5 := hM2.out.trans (by rw [e1]; exact hL5.out.symm)
  have e3 : M3 = L6 := hM3.out.trans (by rw [e2]; exact hL6.out.symm)
  have e4 : M4 = L7 := hM4.out.trans (by rw [e3]; exact hL7.out.symm)
  clear e1 e2 e3
  clear hM1 hM2 hM3 hM4
  subst e4
  obtain ⟨L1, hL1e⟩ : ∃ L, L = M4 := ⟨_, rfl⟩
  have hL1 : Hid (L1.length ≤ 100000000000) := Lib.hid (by rw [hL1e]; have := hl42.out; omega)
  rw [← hL1e] at hp
  clear hL1e
  obtain ⟨v1, hv1⟩ : ∃ v, v = v7 := ⟨_, rfl⟩
  rw [← hv1] at hp
  clear hv1
  go_wp2_with fail
  -- THE REGION THAT DRAWS ITS ORDER, BY ONE LEXICAL WALK OVER GENERIC VALUES (written by relgen.py)
  refine wp_region_tab ((fun _ v => v = .pointer (some ⟨g1, 0, none⟩)) ::
    (fun _ v => v = .pointer (some ⟨g1, 0, none⟩)) ::
    (fun _ v => v = .pointer (some ⟨g1, 0, none⟩)) ::
    (fun w v => ∃ A' c', v = .slice A' L1.length c' ∧ Bytes w w.heap.size A' L1) ::
    (fun _ v => v = .string (strV L1)) ::
    (fun _ v => v = .pointer (some ⟨g2, 0, none⟩)) ::
    (fun _ v => v = .pointer (some ⟨g2, 0, none⟩)) ::
    (fun _ v => v = .pointer (some ⟨g2, 0, none⟩)) ::
    (fun w v => ∃ A' c', v = .slice A' L1.length c' ∧ Bytes w w.heap.size A' L1) ::
    (fun _ v => v = .string (strV L1)) ::
    (fun _ v => v = .bool true) ::
    (fun _ v => v = .bool true) :: [])
    (⟨[(9, none)], 0, []⟩ :: ⟨[(130, some 0)], 0, []⟩ :: ⟨[(131, some 1)], 0, []⟩ :: ⟨[(132, some 2)], 0, []⟩ :: ⟨[(133, some 3)], 0, []⟩ :: ⟨[(10, none)], 0, []⟩ :: ⟨[(135, some 5)], 0, []⟩ :: ⟨[(136, some 6)], 0, []⟩ :: ⟨[(137, some 7)], 0, []⟩ :: ⟨[(138, some 8)], 0, []⟩ :: ⟨[(134, some 4), (139, some 9)], 0, []⟩ :: ⟨[(140, some 10)], 0, []⟩ :: [])
    (none :: none :: none :: none :: none :: none :: none :: none :: some 11 :: none :: none :: none :: none :: none :: none :: none :: none :: none :: none :: none :: none :: none :: none :: none :: none :: none :: none :: none :: none :: none :: none :: none :: none :: none :: none :: none :: none :: none :: none :: none :: none :: none :: none :: none :: none :: none :: none :: none :: none :: none :: none :: none :: none :: none :: none :: none :: none :: none :: none :: none :: none :: none :: none :: none :: none :: none :: none :: none :: none :: none :: none :: none :: none :: none :: none :: none :: none :: none :: none :: none :: none :: none :: none :: none :: none :: none :: none :: none :: none :: none :: none :: none :: none :: none :: none :: none :: none :: none :: none :: none :: none :: none :: none :: none :: none :: none :: none :: none :: none :: none :: none :: none :: none :: none :: none :: none :: none :: none :: none :: none :: none :: none :: none :: none :: none :: none :: none :: none :: none :: none :: some 0 :: some 1 :: some 2 :: some 3 :: some 4 :: some 5 :: some 6 :: some 7 :: some 8 :: some 9 :: some 10 :: [])
    (fun L w' => Pair W w' g1 g2 v1 u L1 L1) (fun _ w w' => Below w.heap.size w w') ?mixK ?okK ?tabK ?frK ?inK ?keptK ?startK ?eachK ?finK
  case mixK => kernel_rfl
  case okK => kernel_rfl
  case tabK => kernel_rfl
  case frK => kernel_rfl
  case inK => rfl
  case keptK => exact ⟨fun _ _ _ _ _ _ _ h => h, fun _ _ _ _ _ _ _ h => h, fun _ _ _ _ _ _ _ h => h, fun _ _ _ => fun w w' v hG ⟨A', c', e, h⟩ => ⟨A', c', e, h.up hG⟩, fun _ _ _ _ _ _ _ h => h, fun _ _ _ _ _ _ _ h => h, fun _ _ _ _ _ _ _ h => h, fun _ _ _ _ _ _ _ h => h, fun _ _ _ => fun w w' v hG ⟨A', c', e, h⟩ => ⟨A', c', e, h.up hG⟩, fun _ _ _ _ _ _ _ h => h, fun _ _ _ _ _ _ _ h => h, fun _ _ _ _ _ _ _ h => h, trivial⟩
  case startK => exact hp.out.below (Below.refl _ _).drew
  case eachK =>
    refine ⟨?_, ?_, ?_, ?_, ?_, ?_, ?_, ?_, ?_, ?_, ?_, ?_, trivial⟩
    -- 0: slot 130 := move t9
    · intro w L f hC hLi hLd hLn hF
      obtain ⟨d9, _⟩ := hF
      have d9 : f 9 = .pointer (some ⟨g1, 0, none⟩) := d9
      refine Step2.live rfl ?_
      exact relUpon_value (v := f 9) rfl (hC) (Below.refl _ _) d9
    -- 1: slot 131 := nilCheck t130
    · intro w L f hC hLi hLd hLn hF
      obtain ⟨d130, _⟩ := hF
      have d130 : f 130 = .pointer (some ⟨g1, 0, none⟩) := d130
      refine Step2.live rfl ?_
      have ev : ∀ t, evalOf f (.tmp t) = f t := fun _ => rfl
      have ec : ∀ c, evalOf f (.const c) = c := fun _ => rfl
      refine relUpon_value ?_ (hC) (Below.refl _ _) rfl
      go_simp
    -- 2: slot 132 := fieldAddr 30 t131 0
    · intro w L f hC hLi hLd hLn hF
      obtain ⟨d131, _⟩ := hF
      have d131 : f 131 = .pointer (some ⟨g1, 0, none⟩) := d131
      refine Step2.live rfl ?_
      have ev : ∀ t, evalOf f (.tmp t) = f t := fun _ => rfl
      have ec : ∀ c, evalOf f (.const c) = c := fun _ => rfl
      refine relUpon_value ?_ (hC) (Below.refl _ _) rfl
      go_simp
    -- 3: slot 133 := call { value (Operand.func 18), args := #[t132], argTypes := #[28] }
    · intro w L f hC hLi hLd hLn hF
      obtain ⟨d132, _⟩ := hF
      have d132 : f 132 = .pointer (some ⟨g1, 0, none⟩) := d132
      refine Step2.live rfl ?_
      have ev : ∀ t, evalOf f (.tmp t) = f t := fun _ => rfl
      have ec : ∀ c, evalOf f (.const c) = c := fun _ => rfl
      have ef : ∀ g, evalOf f (.func g) = .func (.func g) #[] #[] := fun _ => rfl
      refine relUpon_call (f := 18) (args := #[.pointer (some ⟨g1, 0, none⟩)]) (w := w) (by go_simp) (bytes_any w _ g1 _ v1 L1 hC.x hL1.out) ?_
      rintro e w1 ⟨A', c', he, hb, hB, hN, _⟩
      exact ⟨_, he, hC.below hB, hB, ⟨_, _, rfl, hb⟩⟩
    -- 4: slot 134 := convert 26 9 t133
    · intro w L f hC hLi hLd hLn hF
      obtain ⟨d133, _⟩ := hF
      refine Step2.live rfl ?_
      obtain ⟨A', c', e0, hs⟩ := d133
      have kv := run_text (P := Try.prog) w 26 5 Try.underlying26 Try.underlying5 A' L1.length c' L1 rfl hs 9 Try.underlying9
      have ev : ∀ t, evalOf f (.tmp t) = f t := fun _ => rfl
      have ec : ∀ c, evalOf f (.const c) = c := fun _ => rfl
      have ef : ∀ g, evalOf f (.func g) = .func (.func g) #[] #[] := fun _ => rfl
      refine relUpon_value ?_ hC (Below.refl _ _) rfl
      go_simp
    -- 5: slot 135 := move t10
    · intro w L f hC hLi hLd hLn hF
      obtain ⟨d10, _⟩ := hF
      have d10 : f 10 = .pointer (some ⟨g2, 0, none⟩) := d10
      refine Step2.live rfl ?_
      exact relUpon_value (v := f 10) rfl (hC) (Below.refl _ _) d10
    -- 6: slot 136 := nilCheck t135
    · intro w L f hC hLi hLd hLn hF
      obtain ⟨d135, _⟩ := hF
      have d135 : f 135 = .pointer (some ⟨g2, 0, none⟩) := d135
      refine Step2.live rfl ?_
      have ev : ∀ t, evalOf f (.tmp t) = f t := fun _ => rfl
      have ec : ∀ c, evalOf f (.const c) = c := fun _ => rfl
      refine relUpon_value ?_ (hC) (Below.refl _ _) rfl
      go_simp
    -- 7: slot 137 := fieldAddr 30 t136 0
    · intro w L f hC hLi hLd hLn hF
      obtain ⟨d136, _⟩ := hF
      have d136 : f 136 = .pointer (some ⟨g2, 0, none⟩) := d136
      refine Step2.live rfl ?_
      have ev : ∀ t, evalOf f (.tmp t) = f t := fun _ => rfl
      have ec : ∀ c, evalOf f (.const c) = c := fun _ => rfl
      refine relUpon_value ?_ (hC) (Below.refl _ _) rfl
      go_simp
    -- 8: slot 138 := call { value (Operand.func 18), args := #[t137], argTypes := #[28] }
    · intro w L f hC hLi hLd hLn hF
      obtain ⟨d137, _⟩ := hF
      have d137 : f 137 = .pointer (some ⟨g2, 0, none⟩) := d137
      refine Step2.live rfl ?_
      have ev : ∀ t, evalOf f (.tmp t) = f t := fun _ => rfl
      have ec : ∀ c, evalOf f (.const c) = c := fun _ => rfl
      have ef : ∀ g, evalOf f (.func g) = .func (.func g) #[] #[] := fun _ => rfl
      refine relUpon_call (f := 18) (args := #[.pointer (some ⟨g2, 0, none⟩)]) (w := w) (by go_simp) (bytes_any w _ g2 _ u L1 hC.y hL1.out) ?_
      rintro e w1 ⟨A', c', he, hb, hB, hN, _⟩
      exact ⟨_, he, hC.below hB, hB, ⟨_, _, rfl, hb⟩⟩
    -- 9: slot 139 := convert 26 9 t138
    · intro w L f hC hLi hLd hLn hF
      obtain ⟨d138, _⟩ := hF
      refine Step2.live rfl ?_
      obtain ⟨A', c', e0, hs⟩ := d138
      have kv := run_text (P := Try.prog) w 26 5 Try.underlying26 Try.underlying5 A' L1.length c' L1 rfl hs 9 Try.underlying9
      have ev : ∀ t, evalOf f (.tmp t) = f t := fun _ => rfl
      have ec : ∀ c, evalOf f (.const c) = c := fun _ => rfl
      have ef : ∀ g, evalOf f (.func g) = .func (.func g) #[] #[] := fun _ => rfl
      refine relUpon_value ?_ hC (Below.refl _ _) rfl
      go_simp
    -- 10: slot 140 := binOp BinOp.eql 9 t134 t139 9
    · intro w L f hC hLi hLd hLn hF
      obtain ⟨d134, d139, _⟩ := hF
      have d134 : f 134 = .string (strV L1) := d134
      have d139 : f 139 = .string (strV L1) := d139
      refine Step2.live rfl ?_
      have ev : ∀ t, evalOf f (.tmp t) = f t := fun _ => rfl
      have ec : ∀ c, evalOf f (.const c) = c := fun _ => rfl
      refine relUpon_value ?_ (hC) (Below.refl _ _) rfl
      go_simp
    -- 11: slot 8 := assign t140
    · intro w L f hC hLi hLd hLn hF
      obtain ⟨d140, _⟩ := hF
      have d140 : f 140 = .bool true := d140
      refine Step2.live rfl ?_
      exact relUpon_value (v := f 140) rfl (hC) (Below.refl _ _) d140
  case finK =>
    intro x w' hC hV
    have e140 : x 11 = .bool true := hV 11 _ rfl rfl
    simp only [framed]
    rw [e140]
    clear hV
    go_wp2
    go_ret
    exact ⟨rfl, hC.b⟩


theorem together_walk (W : World) (v0 v1 v2 v3 : Value) (o0 : ArgOk 47 W v0) (o1 : ArgOk 48 W v1) (o2 : ArgOk 40 W v2) (o3 : ArgOk 49 W v3) :
    Calls Try.prog 5 #[v0, v1, v2, v3] W fun e w' => e = .returned (.bool true) ∧ Below W.heap.size W w' := by
  obtain ⟨A1, n1, c1, ns, rfl, rfl, _, _, p1, h1⟩ := o0.u64s
  obtain ⟨A2, n2, c2, is, rfl, rfl, _, _, p2, h2⟩ := o1.i64s
  obtain ⟨A3, n3, c3, ss, rfl, rfl, _, _, p3, h3⟩ := o2.texts
  obtain ⟨A4, n4, c4, bs, rfl, rfl, _, _, h4⟩ := o3.bools
  exact together_any W A1 A2 A3 A4 c1 c2 c3 c4 ns is ss bs h1 p1 h2 p2 h3 p3 h4 (by omega) (by omega) (by omega) (by omega)
end Go.Proofs.Ytimhghmnnibajaa
