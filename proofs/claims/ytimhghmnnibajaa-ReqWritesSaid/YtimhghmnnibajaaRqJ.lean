/-
  The walk of req.OpenReply.
-/
import Derived.Test.YtimhghmnnibajaaRqI
namespace Go.Proofs.Ytimhghmnnibajaa
open Go.RowKit

theorem ne_of_next {α : Type} {r : List UInt8 → Option (α × List UInt8)} {st : Option (List UInt8)} (h : nextOf r st ≠ none) : st ≠ none := by
  rintro rfl
  exact h rfl
theorem below_s6 {w0 w : World} {rb : Nat} (hB : Below w0.heap.size w0 w) (h : w0.heap.size ≤ rb) (x0 x1 x2 x3 x4 x5 : Value) : Below w0.heap.size w0 (store6 w rb x0 x1 x2 x3 x4 x5) :=
  hB.trans ((writes_store6 w rb x0 x1 x2 x3 x4 x5).below hB.size (fun j hj => by simp at hj; omega))
/-- Where the loop over the alarms stands, in memory. -/
structure AlLoop (w0 : World) (gr gw rb rv Bv : Nat) (E4 : Option (List UInt8)) (er ps : Int) (cn k : Nat) (acc : List Al) (E : Option (List UInt8)) (va : Value) (w : World) : Prop where
  b : Below w0.heap.size w0 w
  s : Bv ≤ w.heap.size
  wire : Wire w gw gr E
  hrb : Holds w rb 86 #[.int .i64 0, .int .i64 0, .int .i64 0, .slice none 0 0, .string ⟨#[]⟩, .int .i64 0]
  hrv : Holds w rv 86 #[.int .i64 0, .int .i64 er, .int .i64 ps, va, .string ⟨#[]⟩, .int .i64 0]
  own : w.ownsRow Bv 75 2 va k (acc.flatMap Al.cells)
  als : AlsAt E4 cn k acc E
theorem AlLoop.regd {w0 w w' : World} {gr gw rb rv Bv : Nat} {E4 : Option (List UInt8)} {er ps za : Int} {cn k : Nat} {acc : List Al} {E : Option (List UInt8)} {va : Value} (h : AlLoop w0 gr gw rb rv Bv E4 er ps cn k acc E va w) (ho : gr < gw ∧ gw < rv ∧ rb < gr ∧ rv < Bv ∧ w0.heap.size ≤ rb)
    (hW : Wire w' gw gr (nextOf smallR E)) (hM : Writes [some gr, some gw] w w') : AlReg w0 w' gr gw rb rv Bv (nextOf smallR E) er ps za va k (acc.flatMap Al.cells) false false false { w' with drawn := w'.drawn + 1 } := by
  have hd : Below w'.heap.size w' { w' with drawn := w'.drawn + 1 } := (Below.refl _ _).drew
  have hB := h.b.trans (hM.below h.b.size (fun j hj => by simp at hj; omega))
  have h1 := hM.holds h.hrb (by simp; omega)
  have h2 := hM.holds h.hrv (by simp; omega)
  exact ⟨hB.trans (hd.mono hB.size), hd.size, by simpa using hW.below hd, h1.below hd h1.lt, fun _ => h2.below hd h2.lt, fun _ => own_below (own_above h.own hM (fun j hj => by simp at hj; omega)) hd, fun h => by cases h⟩
theorem AlReg.loop {w0 wr w : World} {gr gw rb rv Bv : Nat} {E4 : Option (List UInt8)} {er ps za : Int} {cn k : Nat} {acc : List Al} {E : Option (List UInt8)} {va : Value} (h : AlReg w0 wr gr gw rb rv Bv (nextOf smallR E) er ps za va k (acc.flatMap Al.cells) true true true w) (hs : Bv ≤ wr.heap.size)
    (ha : AlsAt E4 cn k acc E) (hk : k < cn) (hz : nextOf smallR E ≠ none → za = valOf smallR 0 E) : ∃ va' acc', AlLoop w0 gr gw rb rv Bv E4 er ps cn (k + 1) acc' (nextOf smallR (nextOf smallR E)) va' w := by
  obtain ⟨v, z, h1, h2, _, h4⟩ := h.fin rfl
  refine ⟨v, acc ++ [⟨za, z⟩], h.b, Nat.le_trans hs h.s, by simpa using h.wire, h.hrb, h1, ?_, ha.step hk za z hz h4⟩
  rw [List.flatMap_append]
  simpa [Al.cells] using h2

set_option maxRecDepth 100000 in
set_option maxHeartbeats 16000000 in
theorem openP_any (w0 : World) (A : Option Addr) (n c : Nat) (l : List UInt8) (hl : Bytes w0 w0.heap.size A l) (hn : l.length = n) (hlen : n ≤ 100000000000) :
    Calls Try.prog 46 #[.slice A n c] w0 fun e w' => RetP l e w' ∧ Below w0.heap.size w0 w' := by
  obtain ⟨iA, hiA, hzA0, hzA1, hzA2⟩ := info_parts Try.infoAl
  have hl := Lib.hid hl
  rename_i hl'
  have hn := Lib.hid hn
  rename_i hn'
  clear hl' hn'
  have hb1 := Lib.hid (below_new w0 (.cells #[.int .i64 0, .int .i64 0, .int .i64 0, .slice none 0 0, .string ⟨#[]⟩, .int .i64 0] 86))
  have hrb := Lib.hid (Holds.new w0 86 #[.int .i64 0, .int .i64 0, .int .i64 0, .slice none 0 0, .string ⟨#[]⟩, .int .i64 0])
  have hzb := Lib.hid (hl.out.up hb1.out)
  have hq := Lib.hid (openP_eq l)
  have hwn : IntKind.u64.wrap (n : Int) = n := IntWalk.u64_in _ (by omega)
  go_enter Try.func46, Try.ntmps46
  go_wp2_with fail
  generalize w0.alloc (.cells #[.int .i64 0, .int .i64 0, .int .i64 0, .slice none 0 0, .string ⟨#[]⟩, .int .i64 0] 86) = w1 at hb1 hrb hzb ⊢
  obtain ⟨rb, hrbe⟩ : ∃ x, w0.heap.size = x := ⟨_, rfl⟩
  rw [hrbe] at hrb ⊢
  have hwr : w0.heap.size ≤ rb := by omega
  clear hrbe
  refine (newReader_len w1 A n c l hzb.out hn.out hlen).mono ?_
  rintro e w2 ⟨gr, rfl, hgr, hR2a, hb2⟩
  have hrb2 := Lib.hid (hrb.out.below hb2 hrb.out.lt)
  have hrg : rb < gr := Nat.lt_of_lt_of_le hrb.out.lt hgr
  have hB2 := Lib.hid (hb1.out.trans (hb2.mono hb1.out.size))
  have hR2 := Lib.hid hR2a
  clear hb1 hrb hzb hgr hb2 hR2a
  have hbn := below_new w2 (.cells #[.pointer (some ⟨gr, 0, none⟩), .bool false] 125)
  have hrb3 := Lib.hid (hrb2.out.below hbn hrb2.out.lt)
  have hgw : gr < w2.heap.size := by
    obtain ⟨_, _, _, h, _⟩ := hR2.out
    exact h.lt
  have hW3 : Hid (Wire (w2.alloc (.cells #[.pointer (some ⟨gr, 0, none⟩), .bool false] 125)) w2.heap.size gr (some l)) := Lib.hid ⟨false, some l, Holds.new _ _ _, hR2.out.below hbn, rfl, hgw⟩
  have hB3 := Lib.hid (hB2.out.trans (hbn.mono hB2.out.size))
  clear hbn hrb2 hR2 hB2
  go_wp2_with fail
  generalize w2.alloc (.cells #[.pointer (some ⟨gr, 0, none⟩), .bool false] 125) = w3 at hrb3 hW3 hB3 ⊢
  obtain ⟨gw, hgwe⟩ : ∃ x, w2.heap.size = x := ⟨_, rfl⟩
  rw [hgwe] at hW3 hgw ⊢
  clear hgwe
  -- the kind
  obtain ⟨wide, st, k1, k2, k3, _⟩ := hW3.out
  refine (rNum_any _ gr st k2).mono ?_
  intro e w4 ht
  obtain ⟨hW4a, hM4a, rfl, hv4a⟩ := Wire.took k1 hgw ht
  rw [← k3] at hW4a hv4a
  have hklt := valNum_lt st
  generalize valOf numR 0 st = kk at hv4a hklt ⊢
  have hv4 := Lib.hid hv4a
  have hrb4a := hM4a.holds hrb3.out (by simp; omega)
  have hB4a := hB3.out.trans (hM4a.below hB3.out.size (fun j hj => by simp at hj; omega))
  have hbn := below_new w4 (.cells #[.int .i64 0, .int .i64 0, .int .i64 0, .slice none 0 0, .string ⟨#[]⟩, .int .i64 0] 86)
  have hrv4 := Lib.hid (Holds.new w4 86 #[.int .i64 0, .int .i64 0, .int .i64 0, .slice none 0 0, .string ⟨#[]⟩, .int .i64 0])
  have hgv : gw < w4.heap.size := hW4a.lt
  have hW4 := Lib.hid (hW4a.below hbn)
  have hrb4 := Lib.hid (hrb4a.below hbn hrb4a.lt)
  have hB4 := Lib.hid (hB4a.trans (hbn.mono hB4a.size))
  have hvs := Lib.hid (show w4.heap.size < (w4.alloc (.cells #[.int .i64 0, .int .i64 0, .int .i64 0, .slice none 0 0, .string ⟨#[]⟩, .int .i64 0] 86)).heap.size by simp)
  clear k1 k2 k3 ht hW4a hM4a hv4a hW3 hrb3 hB3 hrb4a hB4a hbn
  go_wp2_with fail
  generalize w4.alloc (.cells #[.int .i64 0, .int .i64 0, .int .i64 0, .slice none 0 0, .string ⟨#[]⟩, .int .i64 0] 86) = w5 at hW4 hrb4 hB4 hrv4 hvs ⊢
  obtain ⟨rv, hrve⟩ : ∃ x, w4.heap.size = x := ⟨_, rfl⟩
  rw [hrve] at hrv4 hgv hvs ⊢
  clear hrve
  -- the error
  refine (number_any w5 gw gr _ hW4.out).mono ?_
  rintro e w6 ⟨er, rfl, her1, her2, hW6a, hM6a, hv6a⟩
  have hv6 := Lib.hid hv6a
  have hrb6a := hM6a.holds hrb4.out (by simp; omega)
  have hrv6a := hM6a.holds hrv4.out (by simp; omega)
  have hB6a := hB4.out.trans (hM6a.below hB4.out.size (fun j hj => by simp at hj; omega))
  have hst := Writes.store w6 (M := [some rv]) (p := ⟨rv, 1, none⟩) (by simp) (.int .i64 er)
  have hW6 := Lib.hid (hW6a.keep hst (by simpa using hgv))
  have hrb6 := Lib.hid (hst.holds hrb6a (by simp; omega))
  have hrv6 : Hid (Holds (w6.setCell ⟨rv, 1, none⟩ (.int .i64 er)) rv 86 #[.int .i64 0, .int .i64 er, .int .i64 0, .slice none 0 0, .string ⟨#[]⟩, .int .i64 0]) := Lib.hid (by have := hrv6a.store 1 (.int .i64 er); simpa using this)
  have hB6 := Lib.hid (hB6a.trans (hst.below hB6a.size (fun j hj => by simp at hj; omega)))
  have hvs6 := Lib.hid (Nat.lt_of_lt_of_le hvs.out (Nat.le_trans hM6a.size hst.size))
  have c6 : w6.cell? ⟨rv, 1, none⟩ = some (.int .i64 0) := by rw [hrv6a.cell 1]; rfl
  have f6 := hrv6a.frozen 1
  clear hW6a hM6a hv6a hW4 hrb4 hrv4 hB4 hrb6a hrv6a hB6a hst hvs
  go_wp2_with fail
  clear c6 f6
  generalize w6.setCell ⟨rv, 1, none⟩ (.int .i64 er) = w7 at hW6 hrb6 hrv6 hB6 hvs6 ⊢
  -- the place
  refine (number_any w7 gw gr _ hW6.out).mono ?_
  rintro e w8 ⟨ps, rfl, hps1, hps2, hW8a, hM8a, hv8a⟩
  have hv8 := Lib.hid hv8a
  have hrb8a := hM8a.holds hrb6.out (by simp; omega)
  have hrv8a := hM8a.holds hrv6.out (by simp; omega)
  have hB8a := hB6.out.trans (hM8a.below hB6.out.size (fun j hj => by simp at hj; omega))
  have hst := Writes.store w8 (M := [some rv]) (p := ⟨rv, 2, none⟩) (by simp) (.int .i64 ps)
  have hW8 := Lib.hid (hW8a.keep hst (by simpa using hgv))
  have hrb8 := Lib.hid (hst.holds hrb8a (by simp; omega))
  have hrv8 : Hid (Holds (w8.setCell ⟨rv, 2, none⟩ (.int .i64 ps)) rv 86 #[.int .i64 0, .int .i64 er, .int .i64 ps, .slice none 0 0, .string ⟨#[]⟩, .int .i64 0]) := Lib.hid (by have := hrv8a.store 2 (.int .i64 ps); simpa using this)
  have hB8 := Lib.hid (hB8a.trans (hst.below hB8a.size (fun j hj => by simp at hj; omega)))
  have hvs8 := Lib.hid (Nat.lt_of_lt_of_le hvs6.out (Nat.le_trans hM8a.size hst.size))
  have c8 : w8.cell? ⟨rv, 2, none⟩ = some (.int .i64 0) := by rw [hrv8a.cell 2]; rfl
  have f8 := hrv8a.frozen 2
  clear hW8a hM8a hv8a hW6 hrb6 hrv6 hB6 hrb8a hrv8a hB8a hst hvs6
  have c9 : (w8.setCell ⟨rv, 2, none⟩ (.int .i64 ps)).cell? ⟨gw, 0, none⟩ = some (.pointer (some ⟨gr, 0, none⟩)) := by
    obtain ⟨_, _, h, _⟩ := hW8.out
    rw [h.cell 0]
    rfl
  go_wp2_with fail
  clear c8 f8 c9
  generalize w8.setCell ⟨rv, 2, none⟩ (.int .i64 ps) = w9 at hW8 hrb8 hrv8 hB8 hvs8 ⊢
  -- how many alarms
  obtain ⟨wide, st, k1, k2, k3, _⟩ := hW8.out
  refine (rNum_any _ gr st k2).mono ?_
  intro e w10 ht
  obtain ⟨hW10a, hM10a, rfl, hv10a⟩ := Wire.took k1 hgw ht
  rw [← k3] at hW10a hv10a
  have hclt := valNum_lt st
  generalize valOf numR 0 st = cn at hv10a hclt ⊢
  have hv10 := Lib.hid hv10a
  have hrb10 := Lib.hid (hM10a.holds hrb8.out (by simp; omega))
  have hrv10 := Lib.hid (hM10a.holds hrv8.out (by simp; omega))
  have hB10 := Lib.hid (hB8.out.trans (hM10a.below hB8.out.size (fun j hj => by simp at hj; omega)))
  have hvs10 := Lib.hid (Nat.lt_of_lt_of_le hvs8.out hM10a.size)
  have hW10 := Lib.hid hW10a
  clear k1 k2 k3 ht hW10a hM10a hv10a hW8 hrb8 hrv8 hB8 hvs8
  have hrvrb : rb ≠ rv := by omega
  by_cases hk5 : 5 < kk
  · have hno : Hid (openP l = none) := Lib.hid (by
          rw [hq.out, if_neg]
          rintro ⟨h1, h2⟩
          have e1 := ne_of_next (ne_of_next (ne_of_next (ne_of_next (ne_of_next (by rw [h1]; simp)))))
          have := hv4.out e1
          omega)
    have q0 := (hrb10.out.fact 0 rfl).2
    have q1 := (hrb10.out.fact 1 rfl).2
    have q2 := (hrb10.out.fact 2 rfl).2
    have q3 := (hrb10.out.fact 3 rfl).2
    have q4 := (hrb10.out.fact 4 rfl).2
    have q5 := (hrb10.out.fact 5 rfl).2
    have z0 := hrb10.out.frozen 0
    have z1 := hrb10.out.frozen 1
    have z2 := hrb10.out.frozen 2
    have z3 := hrb10.out.frozen 3
    have z4 := hrb10.out.frozen 4
    have z5 := hrb10.out.frozen 5
    go_wp2_with fail
    exact ret_cell2 rfl rfl rfl (hrb10.out.store6 _ _ _ _ _ _) Try.underlying86 Try.sRp ⟨RetP.no hno.out, below_s6 hB10.out hwr _ _ _ _ _ _⟩
  by_cases hcn : n < cn
  · have hno : Hid (openP l = none) := Lib.hid (openP_many (n := cn) hv10.out (by rw [hn.out]; exact hcn))
    have q0 := (hrb10.out.fact 0 rfl).2
    have q1 := (hrb10.out.fact 1 rfl).2
    have q2 := (hrb10.out.fact 2 rfl).2
    have q3 := (hrb10.out.fact 3 rfl).2
    have q4 := (hrb10.out.fact 4 rfl).2
    have q5 := (hrb10.out.fact 5 rfl).2
    have z0 := hrb10.out.frozen 0
    have z1 := hrb10.out.frozen 1
    have z2 := hrb10.out.frozen 2
    have z3 := hrb10.out.frozen 3
    have z4 := hrb10.out.frozen 4
    have z5 := hrb10.out.frozen 5
    go_wp2_with fail
    exact ret_cell2 rfl rfl rfl (hrb10.out.store6 _ _ _ _ _ _) Try.underlying86 Try.sRp ⟨RetP.no hno.out, below_s6 hB10.out hwr _ _ _ _ _ _⟩
  go_wp2_with fail
  obtain ⟨E3, hE3⟩ : ∃ x, nextOf smallR (nextOf smallR (nextOf numR (some l))) = x := ⟨_, rfl⟩
  rw [hE3] at hW10 hv10
  have hE3 := Lib.hid hE3
  rename_i hE3'
  clear hE3'
  obtain ⟨Bv, hBv⟩ : ∃ x, w10.heap.size = x := ⟨_, rfl⟩
  have hvs10 : Hid (rv < Bv) := Lib.hid (by rw [← hBv]; exact hvs10.out)
  have hst0 : Hid (AlLoop w0 gr gw rb rv Bv (nextOf numR E3) er ps cn 0 [] (nextOf numR E3) (.slice none 0 0) w10) := Lib.hid ⟨hB10.out, by omega, hW10.out, hrb10.out, hrv10.out, World.ownsRow_nil _ _ _ _, AlsAt.start _ _⟩
  have hord0 : Hid (gr < gw ∧ gw < rv ∧ rb < gr ∧ rv < Bv ∧ w0.heap.size ≤ rb) := Lib.hid ⟨hgw, hgv, hrg, hvs10.out, hwr⟩
  clear hBv hB10 hW10 hrb10 hrv10
  go_loopw [40] (fun i wl => ∃ k acc E va, k ≤ cn ∧ i = .int .u64 (k : Nat) ∧ AlLoop w0 gr gw rb rv Bv (nextOf numR E3) er ps cn k acc E va wl) (fun i _ => cn - (intOf i).toNat)
  case atStart => exact ⟨0, [], _, _, by omega, rfl, hst0.out⟩
  clear hst0
  obtain ⟨k, acc, E, va, hk, rfl, hst⟩ := hrel
  have hstl := Lib.hid hst
  clear hst
  by_cases hlt : k < cn
  case pos =>
    go_wp2_with fail
    refine (number_any wr gw gr _ hstl.out.wire).mono ?_
    rintro e wq ⟨za, rfl, hza1, hza2, hWq, hMq, hvq⟩
    have hreg0 := Lib.hid (hstl.out.regd (za := za) hord0.out hWq hMq)
    have hsq : Hid (Bv ≤ wq.heap.size) := Lib.hid (Nat.le_trans hstl.out.s hMq.size)
    have hals := Lib.hid hstl.out.als
    have hvq1 := Lib.hid hvq
    clear hWq hMq hvq
    have hord : Hid (gr < gw ∧ gw < rv ∧ rb < gr ∧ rv < Bv ∧ w0.heap.size ≤ rb ∧ Bv ≤ wq.heap.size) := Lib.hid ⟨hord0.out.1, hord0.out.2.1, hord0.out.2.2.1, hord0.out.2.2.2.1, hord0.out.2.2.2.2, hsq.out⟩
    have hblk : Hid (∀ j, some j ∈ [some gr, some gw, some rv] → j < wq.heap.size) := Lib.hid fun j hj => by simp at hj; have := hord.out; omega
    have hblv : Hid (∀ j, some j ∈ [some gr, some gw, some rv] → j < Bv) := Lib.hid fun j hj => by simp at hj; have := hord.out; omega
    have hkb : Hid (k ≤ 100000000000) := Lib.hid (by omega)
    obtain ⟨xs, hxs⟩ : ∃ xs, acc.flatMap Al.cells = xs := ⟨_, rfl⟩
    obtain ⟨E', hE'⟩ : ∃ x, nextOf smallR E = x := ⟨_, rfl⟩
    have hback : Hid (∀ w2, AlReg w0 wq gr gw rb rv Bv E' er ps za va k xs true true true w2 → ∃ va' acc', AlLoop w0 gr gw rb rv Bv (nextOf numR E3) er ps cn (k + 1) acc' (nextOf smallR (nextOf smallR E)) va' w2) := Lib.hid fun w2 h => by
      subst hxs hE'
      exact h.loop hsq.out hals.out hlt hvq1.out
    rw [hxs, hE'] at hreg0
    clear hxs hE' hals hvq1 hstl
    obtain ⟨E0, hE0⟩ : ∃ x, x = E := ⟨_, rfl⟩
    rw [← hE0] at hback
    clear hE0
    go_wp2_with fail
    -- THE REGION THAT DRAWS ITS ORDER, BY ONE LEXICAL WALK OVER GENERIC VALUES (written by relgen.py)
    refine wp_region_tabL ((fun _ _ v => v = .pointer (some ⟨rv, 3, none⟩)) ::
      (fun _ _ v => v = va) ::
      (fun _ _ v => v = .int .i64 za) ::
      (fun _ _ v => v = .pointer (some ⟨gw, 0, none⟩)) ::
      (fun _ _ v => ∃ z, v = .int .i64 z ∧ i64ok z ∧ (nextOf smallR E' ≠ none → z = valOf smallR 0 E')) ::
      (fun _ _ v => ∃ z, v = .agg #[.int .i64 za, .int .i64 z] ∧ i64ok z ∧ (nextOf smallR E' ≠ none → z = valOf smallR 0 E')) ::
      (fun L w v => Till 7 (fun w v => AlRow wq.heap.size E' za w v) L w v) ::
      (fun _ w v => AlOwn Bv E' za k xs w v) ::
      (fun _ _ v => v = .pointer (some ⟨rv, 3, none⟩)) ::
      (fun _ _ _ => True) :: [])
      (⟨[(6, none)], 0, []⟩ :: ⟨[(44, some 0)], 0, [7, 9]⟩ :: ⟨[(8, none)], 0, []⟩ :: ⟨[(4, none)], 0, []⟩ :: ⟨[(47, some 3)], 0, [7, 9]⟩ :: ⟨[(46, some 2), (48, some 4)], 0, []⟩ :: ⟨[(49, some 5)], 0, [7, 9]⟩ :: ⟨[(45, some 1), (50, some 6)], 0, [9]⟩ :: ⟨[(6, none)], 0, []⟩ :: ⟨[(52, some 8), (51, some 7)], 0, []⟩ :: [])
      (none :: none :: none :: none :: none :: none :: none :: none :: none :: none :: none :: none :: none :: none :: none :: none :: none :: none :: none :: none :: none :: none :: none :: none :: none :: none :: none :: none :: none :: none :: none :: none :: none :: none :: none :: none :: none :: none :: none :: none :: none :: none :: none :: none :: some 0 :: some 1 :: some 2 :: some 3 :: some 4 :: some 5 :: some 6 :: some 7 :: some 8 :: [])
      (fun L w' => AlReg w0 wq gr gw rb rv Bv E' er ps za va k xs (L 4) (L 7) (L 9) w') (fun i w w' => i ≠ 7 → Writes [some gr, some gw, some rv] w w') ?mixK12 ?okK12 ?tabK12 ?frK12 ?inK12 ?keptK12 ?startK12 ?eachK12 ?finK12
    case mixK12 => kernel_rfl
    case okK12 => kernel_rfl
    case tabK12 => kernel_rfl
    case frK12 => kernel_rfl
    case inK12 => rfl
    case keptK12 => exact ⟨fun _ _ _ _ _ _ _ _ _ _ _ h => h, fun _ _ _ _ _ _ _ _ _ _ _ h => h, fun _ _ _ _ _ _ _ _ _ _ _ h => h, fun _ _ _ _ _ _ _ _ _ _ _ h => h, fun _ _ _ _ _ _ _ _ _ _ _ h => h, fun _ _ _ _ _ _ _ _ _ _ _ h => h, fun _ _ _ _ _ _ _ _ _ _ hG h => Till.keep h fun hne h => h.keep (hG hne) hblk.out, fun i hne _ _ _ _ _ _ _ _ hG h => h.keep (hG hne) hblv.out, fun _ _ _ _ _ _ _ _ _ _ _ h => h, fun _ _ _ _ _ _ _ _ _ _ _ h => h, trivial⟩
    case startK12 => exact hreg0.out
    case eachK12 =>
      refine ⟨?_, ?_, ?_, ?_, ?_, ?_, ?_, ?_, ?_, ?_, trivial⟩
      -- 0: slot 44 := fieldAddr 86 t6 3
      · intro w L f hC hLi hLd hLn hF
        obtain ⟨d6, _⟩ := hF
        have d6 : f 6 = .pointer (some ⟨rv, 0, none⟩) := d6
        refine Step2.live rfl ?_
        have ev : ∀ t, evalOf f (.tmp t) = f t := fun _ => rfl
        have ec : ∀ c, evalOf f (.const c) = c := fun _ => rfl
        have ef : ∀ g, evalOf f (.func g) = .func (.func g) #[] #[] := fun _ => rfl
        refine relUpon_value ?_ hC (fun _ => Writes.refl _ _) rfl
        go_simp
      -- 1: slot 45 := load 56 t44
      · intro w L f hC hLi hLd hLn hF
        obtain ⟨d44, _⟩ := hF
        have d44 : f 44 = .pointer (some ⟨rv, 3, none⟩) := d44
        refine Step2.live rfl ?_
        have hz := hC.hrv (hLn 9 (by simp))
        have hcell := (hz.fact 3 rfl).2
        have ev : ∀ t, evalOf f (.tmp t) = f t := fun _ => rfl
        have ec : ∀ c, evalOf f (.const c) = c := fun _ => rfl
        have ef : ∀ g, evalOf f (.func g) = .func (.func g) #[] #[] := fun _ => rfl
        refine relUpon_value ?_ hC (fun _ => Writes.refl _ _) rfl
        go_simp
      -- 2: slot 46 := move t8
      · intro w L f hC hLi hLd hLn hF
        obtain ⟨d8, _⟩ := hF
        have d8 : f 8 = .int .i64 za := d8
        refine Step2.live rfl ?_
        exact relUpon_value (v := f 8) rfl (hC) (fun _ => Writes.refl _ _) d8
      -- 3: slot 47 := move t4
      · intro w L f hC hLi hLd hLn hF
        obtain ⟨d4, _⟩ := hF
        have d4 : f 4 = .pointer (some ⟨gw, 0, none⟩) := d4
        refine Step2.live rfl ?_
        exact relUpon_value (v := f 4) rfl (hC) (fun _ => Writes.refl _ _) d4
      -- 4: slot 48 := call { value (Operand.func 74), args := #[t47], argTypes := #[123] }
      · intro w L f hC hLi hLd hLn hF
        obtain ⟨d47, _⟩ := hF
        have d47 : f 47 = .pointer (some ⟨gw, 0, none⟩) := d47
        refine Step2.live rfl ?_
        have ev : ∀ t, evalOf f (.tmp t) = f t := fun _ => rfl
        have ec : ∀ c, evalOf f (.const c) = c := fun _ => rfl
        have ef : ∀ g, evalOf f (.func g) = .func (.func g) #[] #[] := fun _ => rfl
        refine relUpon_call (f := 74) (args := #[.pointer (some ⟨gw, 0, none⟩)]) (w := w) (by go_simp) (number_any w gw gr E' (by have := hC.wire; rw [hLi] at this; exact this)) ?_
        rintro e w1 ⟨z, he, hz1, hz2, hW, hM, hv⟩
        exact ⟨_, he, ⟨hC.b.trans (hM.below hC.b.size (fun j hj => by simp at hj; have := hord.out; omega)), Nat.le_trans hC.s hM.size, by simpa using hW, hM.holds hC.hrb (by simp; have := hord.out; omega), fun _ => hM.holds (hC.hrv (hLn 9 (by simp))) (by simp; have := hord.out; omega), fun _ => own_above (hC.own (hLn 7 (by simp))) hM (fun j hj => by simp at hj; have := hord.out; omega), (fun h => absurd (show L 9 = true from h) (by rw [hLn 9 (by simp)]; simp))⟩, fun _ => hM.more (by simp), ⟨z, rfl, ⟨by omega, by omega⟩, hv⟩⟩
      -- 5: slot 49 := build 75 #[(0, t46), (1, t48)]
      · intro w L f hC hLi hLd hLn hF
        obtain ⟨d46, d48, _⟩ := hF
        have d46 : f 46 = .int .i64 za := d46
        refine Step2.live rfl ?_
        obtain ⟨z, e0, hz⟩ := d48
        have ev : ∀ t, evalOf f (.tmp t) = f t := fun _ => rfl
        have ec : ∀ c, evalOf f (.const c) = c := fun _ => rfl
        have ef : ∀ g, evalOf f (.func g) = .func (.func g) #[] #[] := fun _ => rfl
        refine relUpon_value (v := .agg #[.int .i64 za, .int .i64 z]) ?_ hC (fun _ => Writes.refl _ _) ⟨z, rfl, hz⟩
        go_simp
      -- 6: slot 50 := buildSlice 56 1 #[(0, t49)]
      · intro w L f hC hLi hLd hLn hF
        obtain ⟨d49, _⟩ := hF
        refine Step2.live rfl ?_
        obtain ⟨z, e0, hz⟩ := d49
        have ev : ∀ t, evalOf f (.tmp t) = f t := fun _ => rfl
        have ec : ∀ c, evalOf f (.const c) = c := fun _ => rfl
        have ef : ∀ g, evalOf f (.func g) = .func (.func g) #[] #[] := fun _ => rfl
        have hbn := below_new w (.cells #[.int .i64 za, .int .i64 z] 75)
        refine relUpon_value (w' := w.alloc (.cells #[.int .i64 za, .int .i64 z] 75)) (v := .slice (some ⟨w.heap.size, 0, none⟩) 1 1) (by go_simp) ⟨hC.b.trans (hbn.mono hC.b.size), Nat.le_trans hC.s hbn.size, hC.wire.below hbn, hC.hrb.below hbn hC.hrb.lt, fun h => (hC.hrv (hLn 9 (by simp))).below hbn (hC.hrv (hLn 9 (by simp))).lt, fun h => own_below (hC.own (hLn 7 (by simp))) hbn, (fun h => absurd (show L 9 = true from h) (by rw [hLn 9 (by simp)]; simp))⟩ (fun _ => Writes.of_below hbn _) (fun _ => ⟨_, z, rfl, hC.s, Holds.new _ _ _, hz⟩)
      -- 7: slot 51 := call { builtin append, args := #[t45, t50], argTypes := #[56, 56] }
      · intro w L f hC hLi hLd hLn hF
        obtain ⟨d45, d50, _⟩ := hF
        have d45 : f 45 = va := d45
        refine Step2.live rfl ?_
        obtain ⟨kn, z, e0, hkn, hrow, hz⟩ := d50 hLi
        have hs0 := hC.s
        have hb0 := hC.b.size
        have ev : ∀ t, evalOf f (.tmp t) = f t := fun _ => rfl
        have ec : ∀ c, evalOf f (.const c) = c := fun _ => rfl
        have ef : ∀ g, evalOf f (.func g) = .func (.func g) #[] #[] := fun _ => rfl
        refine relUpon_append_at (.tmp 45) (.tmp 50) 56 rfl Bv 75 iA (.agg #[.int .i64 0, .int .i64 0]) 2 16 Try.underlying56 hiA hzA0 hzA1 hzA2 rfl (by omega) va k xs (by rw [ev]; exact d45) (hC.own hLi) ⟨kn, 0, none⟩ 1 1 [.int .i64 za, .int .i64 z] (by rw [ev]; exact e0) rfl (fun j u hj => by
          have h9 := hrow.cell j
          have hadd : (⟨kn, 0, none⟩ : Addr).add j = ⟨kn, j, none⟩ := by unfold Addr.add; split <;> simp_all
          rw [hadd, h9]
          simpa using hj) (by intro u hu; simp at hu; rcases hu with rfl | rfl <;> rfl) (by have := hkb.out; unfold maxLen; omega) (by have := hkb.out; omega) (by have := hord.out; omega) ?_
        intro v' w1 ho hg _
        have hM : Writes [va.ownBlock] w w1 := Writes.of_grown hg (by simp)
        have hlow : ∀ j, some j ∈ [va.ownBlock] → Bv ≤ j := fun j hj => own_low (hC.own hLi) (by simpa using hj)
        exact ⟨⟨hC.b.trans (hM.below hC.b.size (fun j hj => by have := hlow j hj; have := hord.out; omega)), Nat.le_trans hC.s hM.size, hC.wire.keep hM (fun j hj => by have := hlow j hj; have := hord.out; omega), hM.holds hC.hrb (fun e => by have := hlow rb e; have := hord.out; omega), fun _ => hM.holds (hC.hrv (hLn 9 (by simp))) (fun e => by have := hlow rv e; have := hord.out; omega), fun h => absurd h (by simp), (fun h => absurd (show L 9 = true from h) (by rw [hLn 9 (by simp)]; simp))⟩, fun h => absurd rfl h, ⟨z, ho, hz⟩⟩
      -- 8: slot 52 := fieldAddr 86 t6 3
      · intro w L f hC hLi hLd hLn hF
        obtain ⟨d6, _⟩ := hF
        have d6 : f 6 = .pointer (some ⟨rv, 0, none⟩) := d6
        refine Step2.live rfl ?_
        have ev : ∀ t, evalOf f (.tmp t) = f t := fun _ => rfl
        have ec : ∀ c, evalOf f (.const c) = c := fun _ => rfl
        have ef : ∀ g, evalOf f (.func g) = .func (.func g) #[] #[] := fun _ => rfl
        refine relUpon_value ?_ hC (fun _ => Writes.refl _ _) rfl
        go_simp
      -- 9: slot None := store 56 t52 t51
      · intro w L f hC hLi hLd hLn hF
        obtain ⟨d52, d51, _⟩ := hF
        have d52 : f 52 = .pointer (some ⟨rv, 3, none⟩) := d52
        refine Step2.live rfl ?_
        obtain ⟨z, ho, hz⟩ := d51
        have hv9 := hC.hrv hLi
        have hcell := (hv9.fact 3 rfl).2
        have hfz := hv9.frozen 3
        obtain ⟨Av, cv, hva, _, _⟩ := own_rowN ho
        rw [hva] at ho
        have ev : ∀ t, evalOf f (.tmp t) = f t := fun _ => rfl
        have ec : ∀ c, evalOf f (.const c) = c := fun _ => rfl
        have ef : ∀ g, evalOf f (.func g) = .func (.func g) #[] #[] := fun _ => rfl
        have hst := Writes.store w (M := [some rv]) (p := ⟨rv, 3, none⟩) (by simp) (.slice Av (k + 1) cv)
        refine relUpon_skip (w' := w.setCell ⟨rv, 3, none⟩ (.slice Av (k + 1) cv)) ?_ ⟨hC.b.trans (hst.below hC.b.size (fun j hj => by simp at hj; have := hord.out; omega)), Nat.le_trans hC.s hst.size, hC.wire.keep hst (fun j hj => by simp at hj; have := hord.out; omega), hst.holds hC.hrb (by simp; have := hord.out; omega), fun h => absurd h (by simp), fun h => own_above (hC.own h) hst (fun j hj => by simp at hj; have := hord.out; omega), fun _ => ⟨_, z, by have := hv9.store 3 (.slice Av (k + 1) cv); simpa using this, own_above ho hst (fun j hj => by simp at hj; have := hord.out; omega), hz⟩⟩ (fun _ => hst.more (by simp)) trivial
        go_simp
    intro x w' hC hV

    have hd := hback.out _ hC
    clear hV hC
    simp only [framed]
    go_wp2_with fail
    go_roundw
    case rel =>
      obtain ⟨va', acc', h⟩ := hd
      exact ⟨k + 1, acc', _, va', by omega, by go_num, h⟩
    case measure => simp [intOf]; omega
  obtain rfl : k = cn := by omega
  obtain ⟨Aa, ca, rfl, _, hca⟩ := own_rowN hstl.out.own
  have hal := Lib.hid (hstl.out.als.end_ hv10.out)
  have haccl := Lib.hid hstl.out.als.1
  have hW14 := Lib.hid hstl.out.wire
  have hrb14 := Lib.hid hstl.out.hrb
  have hrv14 := Lib.hid hstl.out.hrv
  have hB14 := Lib.hid hstl.out.b
  have hown14 := Lib.hid hstl.out.own
  have hkeep : Hid (∀ M : List (Option Nat), (∀ j, some j ∈ M → j < Bv) → ∀ w w', Writes M w w' → w.ownsRow Bv 75 2 (.slice Aa k ca) k (acc.flatMap Al.cells) → w'.ownsRow Bv 75 2 (.slice Aa k ca) k (acc.flatMap Al.cells)) := Lib.hid fun M hM w w' h1 h2 => own_above h2 h1 hM
  have hca1 := Lib.hid hca
  clear hstl hlt hca
  have c14 : wr.cell? ⟨gw, 0, none⟩ = some (.pointer (some ⟨gr, 0, none⟩)) := by
    obtain ⟨_, _, h, _⟩ := hW14.out
    rw [h.cell 0]
    rfl
  go_wp2_with fail
  clear c14
  -- the text
  obtain ⟨wide, st, k1, k2, k3, _⟩ := hW14.out
  refine (rText_any _ gr st k2).mono ?_
  intro e w15 ht
  obtain ⟨hW15a, hM15a, rfl, hv15a⟩ := Wire.took k1 hgw ht
  rw [← k3] at hW15a hv15a
  generalize valOf textR [] st = tx at hv15a ⊢
  have hv15 := Lib.hid hv15a
  have hrb15a := hM15a.holds hrb14.out (by simp; omega)
  have hrv15a := hM15a.holds hrv14.out (by simp; omega)
  have hB15a := hB14.out.trans (hM15a.below hB14.out.size (fun j hj => by simp at hj; omega))
  have hown15a := hkeep.out _ (fun j hj => by simp at hj; have := hord0.out; omega) _ _ hM15a hown14.out
  have hst := Writes.store w15 (M := [some rv]) (p := ⟨rv, 4, none⟩) (by simp) (.string (strV tx))
  have hW15 := Lib.hid (hW15a.keep hst (by simpa using hgv))
  have hrb15 := Lib.hid (hst.holds hrb15a (by simp; omega))
  have hrv15 : Hid (Holds (w15.setCell ⟨rv, 4, none⟩ (.string (strV tx))) rv 86 #[.int .i64 0, .int .i64 er, .int .i64 ps, .slice Aa k ca, .string (strV tx), .int .i64 0]) := Lib.hid (by have := hrv15a.store 4 (.string (strV tx)); simpa using this)
  have hB15 := Lib.hid (hB15a.trans (hst.below hB15a.size (fun j hj => by simp at hj; omega)))
  have hown15 := Lib.hid (hkeep.out _ (fun j hj => by simp at hj; have := hord0.out; omega) _ _ hst hown15a)
  have c15 : w15.cell? ⟨rv, 4, none⟩ = some (.string ⟨#[]⟩) := by rw [hrv15a.cell 4]; rfl
  have f15 := hrv15a.frozen 4
  clear k1 k2 k3 ht hW15a hM15a hv15a hW14 hrb14 hrv14 hB14 hrb15a hrv15a hB15a hst hown15a hown14
  go_wp2_with fail
  clear c15 f15
  generalize w15.setCell ⟨rv, 4, none⟩ (.string (strV tx)) = w16 at hW15 hrb15 hrv15 hB15 hown15 ⊢
  -- the number
  refine (number_any w16 gw gr _ hW15.out).mono ?_
  rintro e w17 ⟨z, rfl, hz1, hz2, hW17a, hM17a, hv17a⟩
  have hv17 := Lib.hid hv17a
  have hrb17a := hM17a.holds hrb15.out (by simp; omega)
  have hrv17a := hM17a.holds hrv15.out (by simp; omega)
  have hB17a := hB15.out.trans (hM17a.below hB15.out.size (fun j hj => by simp at hj; omega))
  have hown17a := hkeep.out _ (fun j hj => by simp at hj; have := hord0.out; omega) _ _ hM17a hown15.out
  have hst := Writes.store w17 (M := [some rv]) (p := ⟨rv, 5, none⟩) (by simp) (.int .i64 z)
  have hW17 := Lib.hid (hW17a.keep hst (by simpa using hgv))
  have hrb17 := Lib.hid (hst.holds hrb17a (by simp; omega))
  have hrv17 : Hid (Holds (w17.setCell ⟨rv, 5, none⟩ (.int .i64 z)) rv 86 #[.int .i64 0, .int .i64 er, .int .i64 ps, .slice Aa k ca, .string (strV tx), .int .i64 z]) := Lib.hid (by have := hrv17a.store 5 (.int .i64 z); simpa using this)
  have hB17 := Lib.hid (hB17a.trans (hst.below hB17a.size (fun j hj => by simp at hj; omega)))
  have hown17 := Lib.hid (hkeep.out _ (fun j hj => by simp at hj; have := hord0.out; omega) _ _ hst hown17a)
  have c17 : w17.cell? ⟨rv, 5, none⟩ = some (.int .i64 0) := by rw [hrv17a.cell 5]; rfl
  have f17 := hrv17a.frozen 5
  clear hW17a hM17a hv17a hW15 hrb15 hrv15 hB15 hrb17a hrv17a hB17a hst hown17a hown15
  go_wp2_with fail
  clear c17 f17
  generalize w17.setCell ⟨rv, 5, none⟩ (.int .i64 z) = w18 at hW17 hrb17 hrv17 hB17 hown17 ⊢
  refine (whole_any w18 gw gr _ hW17.out).mono ?_
  rintro e w19 ⟨rfl, rfl⟩
  have hq1 := hq.out
  rw [hE3.out, hal.out.1] at hq1
  by_cases hend : nextOf smallR (nextOf textR E) = some []
  · have hd : decide (nextOf smallR (nextOf textR E) = some []) = true := by simp [hend]
    rw [hd]
    clear hd
    have e5 : nextOf textR E ≠ none := fun h => by rw [h] at hend; cases hend
    have e4 : E ≠ none := ne_of_next e5
    have e3 : E3 ≠ none := ne_of_next (r := alsR) (by rw [hal.out.1]; exact e4)
    have e2 : nextOf smallR (nextOf numR (some l)) ≠ none := ne_of_next (r := smallR) (by rw [hE3.out]; exact e3)
    have e1 : nextOf numR (some l) ≠ none := ne_of_next e2
    rw [← hv4.out e1, ← hv6.out e2, ← hv8.out (by rw [hE3.out]; exact e3), hal.out.2 e4, ← hv15.out e5, ← hv17.out (by rw [hend]; simp)] at hq1
    have hyes : Hid (openP l = some ⟨(kk : Int), er, ps, acc, strV tx, z⟩) := Lib.hid (by rw [hq1, if_pos ⟨hend, by omega⟩])
    clear hq hq1 e1 e2 e3 e4 e5 hend hv4 hv6 hv8 hv15 hv17 hal hE3
    have q0 := (hrb17.out.fact 0 rfl).2
    have q1 := (hrb17.out.fact 1 rfl).2
    have q2 := (hrb17.out.fact 2 rfl).2
    have q3 := (hrb17.out.fact 3 rfl).2
    have q4 := (hrb17.out.fact 4 rfl).2
    have q5 := (hrb17.out.fact 5 rfl).2
    have z0 := hrb17.out.frozen 0
    have z1 := hrb17.out.frozen 1
    have z2 := hrb17.out.frozen 2
    have z3 := hrb17.out.frozen 3
    have z4 := hrb17.out.frozen 4
    have z5 := hrb17.out.frozen 5
    have p0 := (hrv17.out.fact 0 rfl).2
    have p1 := (hrv17.out.fact 1 rfl).2
    have p2 := (hrv17.out.fact 2 rfl).2
    have p3 := (hrv17.out.fact 3 rfl).2
    have p4 := (hrv17.out.fact 4 rfl).2
    have p5 := (hrv17.out.fact 5 rfl).2
    have y0 := hrv17.out.frozen 0
    have hst := Writes.store w19 (M := [some rv]) (p := ⟨rv, 0, none⟩) (by simp) (.int .i64 (kk : Int))
    have hrb9 := Lib.hid (hst.holds hrb17.out (by simp; omega))
    have hB9 := Lib.hid (hB17.out.trans (hst.below hB17.out.size (fun j hj => by simp at hj; omega)))
    have hown9 := Lib.hid (hkeep.out _ (fun j hj => by simp at hj; have := hord0.out; omega) _ _ hst hown17.out)
    clear hst
    go_wp2_with fail
    have hown10 := hkeep.out _ (fun j hj => by simp at hj; have := hord0.out; omega) _ _ (writes_store6 _ rb (.int .i64 (kk : Int)) (.int .i64 er) (.int .i64 ps) (.slice Aa k ca) (.string (strV tx)) (.int .i64 z)) hown9.out
    obtain ⟨Ab, cb, hvb, hrow, _⟩ := own_rowN hown10
    injection hvb with hv1 _ hv2
    subst hv1 hv2
    exact ret_cell2 rfl rfl rfl (hrb9.out.store6 _ _ _ _ _ _) Try.underlying86 Try.sRp ⟨RetP.ok hyes.out haccl.out hrow hca1.out, below_s6 hB9.out hwr _ _ _ _ _ _⟩
  · have hno : Hid (openP l = none) := Lib.hid (by rw [hq1, if_neg (fun h => hend h.1)])
    have hd : decide (nextOf smallR (nextOf textR E) = some []) = false := by simp [hend]
    rw [hd]
    clear hd hq hq1 hv4 hv6 hv8 hv15 hv17 hend
    have q0 := (hrb17.out.fact 0 rfl).2
    have q1 := (hrb17.out.fact 1 rfl).2
    have q2 := (hrb17.out.fact 2 rfl).2
    have q3 := (hrb17.out.fact 3 rfl).2
    have q4 := (hrb17.out.fact 4 rfl).2
    have q5 := (hrb17.out.fact 5 rfl).2
    have z0 := hrb17.out.frozen 0
    have z1 := hrb17.out.frozen 1
    have z2 := hrb17.out.frozen 2
    have z3 := hrb17.out.frozen 3
    have z4 := hrb17.out.frozen 4
    have z5 := hrb17.out.frozen 5
    go_wp2_with fail
    exact ret_cell2 rfl rfl rfl (hrb17.out.store6 _ _ _ _ _ _) Try.underlying86 Try.sRp ⟨RetP.no hno.out, below_s6 hB17.out hwr _ _ _ _ _ _⟩
end Go.Proofs.Ytimhghmnnibajaa
