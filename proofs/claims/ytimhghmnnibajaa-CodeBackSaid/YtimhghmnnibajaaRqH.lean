/-
  The walk of augurref24.OpenReply.
-/
import Derived.Test.YtimhghmnnibajaaRqG
namespace Go.Proofs.Ytimhghmnnibajaa
open Go.RowKit

theorem openP_eq (l : List UInt8) : openP l =
    if nextOf smallR (nextOf textR (nextOf alsR (nextOf smallR (nextOf smallR (nextOf numR (some l)))))) = some [] ∧ valOf numR 0 (some l) ≤ 5
    then some ⟨((valOf numR 0 (some l) : Nat) : Int), valOf smallR 0 (nextOf numR (some l)), valOf smallR 0 (nextOf smallR (nextOf numR (some l))), valOf alsR [] (nextOf smallR (nextOf smallR (nextOf numR (some l)))), strV (valOf textR [] (nextOf alsR (nextOf smallR (nextOf smallR (nextOf numR (some l)))))), valOf smallR 0 (nextOf textR (nextOf alsR (nextOf smallR (nextOf smallR (nextOf numR (some l))))))⟩ else none := by
  unfold openP
  cases h1 : numR l with
  | none => simp [nextOf, h1]
  | some k =>
    cases h2 : smallR k.2 with
    | none => simp [nextOf, h1, h2]
    | some a =>
      cases h3 : smallR a.2 with
      | none => simp [nextOf, h1, h2, h3]
      | some b =>
        cases h4 : alsR b.2 with
        | none => simp [nextOf, h1, h2, h3, h4]
        | some c =>
          cases h5 : textR c.2 with
          | none => simp [nextOf, h1, h2, h3, h4, h5]
          | some t =>
            cases h6 : smallR t.2 with
            | none => simp [nextOf, h1, h2, h3, h4, h5, h6]
            | some z => simp [nextOf, valOf, h1, h2, h3, h4, h5, h6]
/-- What OpenReply answers. -/
def RetP (l : List UInt8) (e : Ending) (w' : World) : Prop :=
  match openP l with
  | some p => ∃ A c, e = .returned (.tuple #[.agg #[.int .i64 p.kind, .int .i64 p.err, .int .i64 p.pos, .slice A p.al.length c, .string p.text, .int .i64 p.n], .int .i64 0]) ∧ Row w' w'.heap.size A (p.al.flatMap Al.cells) ∧ p.al.length ≤ c
  | none => e = .returned (.tuple #[.agg #[.int .i64 0, .int .i64 0, .int .i64 0, .slice none 0 0, .string ⟨#[]⟩, .int .i64 0], .int .i64 80])
theorem RetP.no {l : List UInt8} {w' : World} (h : openP l = none) : RetP l (.returned (.tuple #[.agg #[.int .i64 0, .int .i64 0, .int .i64 0, .slice none 0 0, .string ⟨#[]⟩, .int .i64 0], .int .i64 80])) w' := by
  unfold RetP
  rw [h]
theorem RetP.ok {l : List UInt8} {w' : World} {p : Rp} {A : Option Addr} {n c : Nat} (h : openP l = some p) (hn : p.al.length = n) (hr : Row w' w'.heap.size A (p.al.flatMap Al.cells)) (hc : n ≤ c) :
    RetP l (.returned (.tuple #[.agg #[.int .i64 p.kind, .int .i64 p.err, .int .i64 p.pos, .slice A n c, .string p.text, .int .i64 p.n], .int .i64 0])) w' := by
  unfold RetP
  rw [h]
  subst hn
  exact ⟨A, c, rfl, hr, hc⟩
theorem own_rowN {w : World} {base : Nat} {e : TypeId} {size : Nat} {v : Value} {n : Nat} {xs : List Value} (h : w.ownsRow base e size v n xs) : ∃ A c, v = .slice A n c ∧ Row w w.heap.size A xs ∧ n ≤ c := by
  have hl := h.1
  rcases h.2 with ⟨rfl, rfl⟩ | ⟨g, cap, cur, rfl, hg, hh, hn, _⟩
  · have : xs = [] := List.eq_nil_of_length_eq_zero (by simpa using hl)
    subst this
    exact ⟨none, 0, rfl, Row.nil_ _ _ _, Nat.le_refl _⟩
  · refine ⟨_, cap, rfl, fun _ => ⟨g, 0, rfl, (Array.getElem?_eq_some_iff.1 hh).1, fun j u hu => ?_⟩, hn⟩
    have := h.cells (g := g) rfl j u hu
    have hadd : (⟨g, 0, none⟩ : Addr).add j = ⟨g, 0 + j, none⟩ := by unfold Addr.add; split <;> simp_all
    rw [← hadd]
    exact this
theorem Try.sRp : (Try.prog.info? 86).map (·.size) = some 6 := by kernel_rfl
/-- Six cells stored. -/
def store6 (w : World) (g : Nat) (x0 x1 x2 x3 x4 x5 : Value) : World := ((((((w.setCell ⟨g, 0, none⟩ x0).setCell ⟨g, 1, none⟩ x1).setCell ⟨g, 2, none⟩ x2).setCell ⟨g, 3, none⟩ x3).setCell ⟨g, 4, none⟩ x4).setCell ⟨g, 5, none⟩ x5)
theorem Holds.store6 {w : World} {g : Nat} {t : TypeId} {a b c d e f : Value} (h : Holds w g t #[a, b, c, d, e, f]) (x0 x1 x2 x3 x4 x5 : Value) : Holds (store6 w g x0 x1 x2 x3 x4 x5) g t #[x0, x1, x2, x3, x4, x5] := by
  have := (((((h.store 0 x0).store 1 x1).store 2 x2).store 3 x3).store 4 x4).store 5 x5
  simpa [Go.Proofs.Ytimhghmnnibajaa.store6] using this
theorem writes_store6 (w : World) (g : Nat) (x0 x1 x2 x3 x4 x5 : Value) : Writes [some g] w (store6 w g x0 x1 x2 x3 x4 x5) :=
  (((((Writes.store w (by simp) x0).trans (Writes.store _ (by simp) x1)).trans (Writes.store _ (by simp) x2)).trans (Writes.store _ (by simp) x3)).trans (Writes.store _ (by simp) x4)).trans (Writes.store _ (by simp) x5)

set_option maxRecDepth 100000 in
set_option maxHeartbeats 4000000 in
theorem refOpenP_any (w0 : World) (A : Option Addr) (n c : Nat) (l : List UInt8) (hl : Bytes w0 w0.heap.size A l) (hn : l.length = n) (hc : n ≤ c) (hlen : n ≤ 100000000000) :
    Calls Try.prog 47 #[.slice A n c] w0 fun e w' => RetP l e w' ∧ Below w0.heap.size w0 w' := by
  have hl := Lib.hid hl
  rename_i hl'
  have hn := Lib.hid hn
  rename_i hn'
  clear hl' hn'
  have hb1 := Lib.hid (below_new w0 (.cells #[.int .i64 0, .int .i64 0, .int .i64 0, .slice none 0 0, .string ⟨#[]⟩, .int .i64 0] 86))
  have hrb := Lib.hid (Holds.new w0 86 #[.int .i64 0, .int .i64 0, .int .i64 0, .slice none 0 0, .string ⟨#[]⟩, .int .i64 0])
  go_enter Try.func47, Try.ntmps47
  have hR2 : Hid (Rrd ((w0.alloc (.cells #[.int .i64 0, .int .i64 0, .int .i64 0, .slice none 0 0, .string ⟨#[]⟩, .int .i64 0] 86)).alloc (.cells #[.slice A n c, .bool false] 69)) (w0.alloc (.cells #[.int .i64 0, .int .i64 0, .int .i64 0, .slice none 0 0, .string ⟨#[]⟩, .int .i64 0] 86)).heap.size (some l)) := Lib.hid (Rrd.new (hl.out.up hb1.out) hn.out hc hlen)
  have hbn := below_new (w0.alloc (.cells #[.int .i64 0, .int .i64 0, .int .i64 0, .slice none 0 0, .string ⟨#[]⟩, .int .i64 0] 86)) (.cells #[.slice A n c, .bool false] 69)
  have hrb2 := Lib.hid (hrb.out.below hbn hrb.out.lt)
  have hB2 := Lib.hid (hb1.out.trans (hbn.mono hb1.out.size))
  have hrg : w0.heap.size < (w0.alloc (.cells #[.int .i64 0, .int .i64 0, .int .i64 0, .slice none 0 0, .string ⟨#[]⟩, .int .i64 0] 86)).heap.size := by simp
  clear hbn hrb hb1
  go_wp2_with fail
  generalize (w0.alloc (.cells #[.int .i64 0, .int .i64 0, .int .i64 0, .slice none 0 0, .string ⟨#[]⟩, .int .i64 0] 86)).alloc (.cells #[.slice A n c, .bool false] 69) = w2 at hR2 hrb2 hB2 ⊢
  obtain ⟨rb, hrbe⟩ : ∃ x, w0.heap.size = x := ⟨_, rfl⟩
  have hge : (w0.alloc (.cells #[.int .i64 0, .int .i64 0, .int .i64 0, .slice none 0 0, .string ⟨#[]⟩, .int .i64 0] 86)).heap.size = rb + 1 := by simp [hrbe]
  rw [hge] at hR2 hrg
  have hwr : w0.heap.size ≤ rb := by omega
  rw [hrbe] at hrb2 hrg ⊢
  clear hrbe hge
  refine (rrNum_any w2 (rb + 1) _ hR2.out).mono ?_
  rintro e w3 ⟨rfl, hR3a, hM3⟩
  have hR3 := Lib.hid hR3a
  have hrb3 := Lib.hid (hM3.holds hrb2.out (by simp))
  have hB3 := Lib.hid (hB2.out.trans (hM3.below hB2.out.size (fun j hj => by simp at hj; omega)))
  have hklt := valNum_lt (some l)
  have hq0 := openP_eq l
  have hq := Lib.hid hq0
  clear hq0 hR3a hM3 hR2 hrb2 hB2
  obtain ⟨kk, hkk⟩ : ∃ x, valOf numR 0 (some l) = x := ⟨_, rfl⟩
  rw [hkk] at hq hklt ⊢
  clear hkk
  go_wp2_with fail
  refine (rrSmall_any w3 (rb + 1) _ hR3.out).mono ?_
  rintro e w4 ⟨rfl, hR4a, hM4⟩
  have hR4 := Lib.hid hR4a
  have hrb4 := Lib.hid (hM4.holds hrb3.out (by simp))
  have hB4 := Lib.hid (hB3.out.trans (hM4.below hB3.out.size (fun j hj => by simp at hj; omega)))
  clear hR4a hM4 hR3 hrb3 hB3
  obtain ⟨er, her⟩ : ∃ x, valOf smallR 0 (nextOf numR (some l)) = x := ⟨_, rfl⟩
  rw [her] at hq ⊢
  clear her
  go_wp2_with fail
  refine (rrSmall_any w4 (rb + 1) _ hR4.out).mono ?_
  rintro e w5 ⟨rfl, hR5a, hM5⟩
  have hR5 := Lib.hid hR5a
  have hrb5 := Lib.hid (hM5.holds hrb4.out (by simp))
  have hB5 := Lib.hid (hB4.out.trans (hM5.below hB4.out.size (fun j hj => by simp at hj; omega)))
  clear hR5a hM5 hR4 hrb4 hB4
  obtain ⟨ps, hps⟩ : ∃ x, valOf smallR 0 (nextOf smallR (nextOf numR (some l))) = x := ⟨_, rfl⟩
  rw [hps] at hq ⊢
  clear hps
  go_wp2_with fail
  refine (rrAls_any w5 (rb + 1) _ hR5.out).mono ?_
  rintro e w6 ⟨va, rfl, ho6, hR6a, hM6⟩
  obtain ⟨Aa, ca, hva0, _, hca⟩ := own_rowN ho6
  have hR6 := Lib.hid hR6a
  have hrb6 := Lib.hid (hM6.holds hrb5.out (by simp))
  have hB6 := Lib.hid (hB5.out.trans (hM6.below hB5.out.size (fun j hj => by simp at hj; omega)))
  have hrl5 := hrb5.out.lt
  obtain ⟨al, hal⟩ : ∃ x, valOf alsR [] (nextOf smallR (nextOf smallR (nextOf numR (some l)))) = x := ⟨_, rfl⟩
  rw [hal] at hq ho6 hva0 hca
  clear hal
  rw [hva0] at ho6 ⊢
  clear hva0
  have hca1 := Lib.hid hca
  clear hca va
  have hR5lt := hR5.out.lt
  have ho := Lib.hid ho6
  clear hR6a hM6 hR5 hrb5 hB5 ho6
  go_wp2_with fail
  refine (rrText_any w6 (rb + 1) _ hR6.out).mono ?_
  rintro e w7 ⟨rfl, hR7a, hM7⟩
  have hR7 := Lib.hid hR7a
  have hrb7 := Lib.hid (hM7.holds hrb6.out (by simp))
  have hB7 := Lib.hid (hB6.out.trans (hM7.below hB6.out.size (fun j hj => by simp at hj; omega)))
  have hkeep : ∀ M : List (Option Nat), (∀ j, some j ∈ M → j ≤ rb + 1) → (Value.slice Aa al.length ca).ownBlock = none ∨ (Value.slice Aa al.length ca).ownBlock ∉ M := fun M hM => by
    by_cases hne : (Value.slice Aa al.length ca).ownBlock = none
    · exact .inl hne
    · refine .inr fun hm => ?_
      obtain ⟨j, hj⟩ := Option.ne_none_iff_exists'.1 hne
      have h8 := hM j (by rw [← hj]; exact hm)
      have h9 := own_low ho.out hj.symm
      omega
  have hkeep := Lib.hid hkeep
  have ho7 := Lib.hid (hM7.own ho.out (hkeep.out _ (fun j hj => by simp at hj; omega)))
  clear hR7a hM7 hR6 hrb6 hB6 ho
  obtain ⟨tx, htx⟩ : ∃ x, valOf textR [] (nextOf alsR (nextOf smallR (nextOf smallR (nextOf numR (some l))))) = x := ⟨_, rfl⟩
  rw [htx] at hq ⊢
  clear htx
  go_wp2_with fail
  refine (rrSmall_any w7 (rb + 1) _ hR7.out).mono ?_
  rintro e w8 ⟨rfl, hR8a, hM8⟩
  have hR8 := Lib.hid hR8a
  have hrb8 := Lib.hid (hM8.holds hrb7.out (by simp))
  have hB8 := Lib.hid (hB7.out.trans (hM8.below hB7.out.size (fun j hj => by simp at hj; omega)))
  have ho8 := Lib.hid (hM8.own ho7.out (hkeep.out _ (fun j hj => by simp at hj; omega)))
  clear hR8a hM8 hR7 hrb7 hB7 ho7
  obtain ⟨z, hz⟩ : ∃ x, valOf smallR 0 (nextOf textR (nextOf alsR (nextOf smallR (nextOf smallR (nextOf numR (some l)))))) = x := ⟨_, rfl⟩
  rw [hz] at hq ⊢
  clear hz
  obtain ⟨E, hE⟩ : ∃ x, nextOf smallR (nextOf textR (nextOf alsR (nextOf smallR (nextOf smallR (nextOf numR (some l)))))) = x := ⟨_, rfl⟩
  rw [hE] at hq hR8
  clear hE
  obtain ⟨A6, m6, c6, c0, c1, _, _, _, _, hl6⟩ := hR8.out.cells
  have q0 := (hrb8.out.fact 0 rfl).2
  have q1 := (hrb8.out.fact 1 rfl).2
  have q2 := (hrb8.out.fact 2 rfl).2
  have q3 := (hrb8.out.fact 3 rfl).2
  have q4 := (hrb8.out.fact 4 rfl).2
  have q5 := (hrb8.out.fact 5 rfl).2
  have z0 := hrb8.out.frozen 0
  have z1 := hrb8.out.frozen 1
  have z2 := hrb8.out.frozen 2
  have z3 := hrb8.out.frozen 3
  have z4 := hrb8.out.frozen 4
  have z5 := hrb8.out.frozen 5
  have hfin : Hid (∀ x0 x1 x2 x3 x4 x5, Holds (store6 w8 rb x0 x1 x2 x3 x4 x5) rb 86 #[x0, x1, x2, x3, x4, x5] ∧ Below w0.heap.size w0 (store6 w8 rb x0 x1 x2 x3 x4 x5)) := Lib.hid fun x0 x1 x2 x3 x4 x5 => ⟨hrb8.out.store6 _ _ _ _ _ _, hB8.out.trans ((writes_store6 w8 rb x0 x1 x2 x3 x4 x5).below hB8.out.size (fun j hj => by simp at hj; omega))⟩
  have hfo : Hid (∀ x0 x1 x2 x3 x4 x5, (store6 w8 rb x0 x1 x2 x3 x4 x5).ownsRow w5.heap.size 75 2 (.slice Aa al.length ca) al.length (al.flatMap Al.cells)) := Lib.hid fun x0 x1 x2 x3 x4 x5 => (writes_store6 w8 rb x0 x1 x2 x3 x4 x5).own ho8.out (hkeep.out _ (fun j hj => by simp at hj; omega))
  clear hR8 hrb8 hB8 ho8 hkeep
  cases E with
  | none =>
    have hno : Hid (openP l = none) := Lib.hid (by rw [hq.out, if_neg (fun h => by cases h.1)])
    clear hq hl6
    go_wp2_with fail
    exact ret_cell2 rfl rfl rfl (hfin.out _ _ _ _ _ _).1 Try.underlying86 Try.sRp ⟨RetP.no hno.out, (hfin.out _ _ _ _ _ _).2⟩
  | some r =>
    obtain ⟨hm6, _, _, _⟩ := hl6 r rfl
    cases r with
    | cons b r =>
      have hno : Hid (openP l = none) := Lib.hid (by rw [hq.out, if_neg (fun h => by have := h.1; simp at this)])
      have hm0 : 0 < m6 := by rw [← hm6]; simp
      clear hq hl6 hm6
      go_wp2_with fail
      exact ret_cell2 rfl rfl rfl (hfin.out _ _ _ _ _ _).1 Try.underlying86 Try.sRp ⟨RetP.no hno.out, (hfin.out _ _ _ _ _ _).2⟩
    | nil =>
      have hm0 : m6 = 0 := by rw [← hm6]; rfl
      subst hm0
      clear hl6 hm6
      by_cases hk7 : 5 < kk
      · have hno : Hid (openP l = none) := Lib.hid (by rw [hq.out, if_neg (by omega)])
        clear hq
        go_wp2_with fail
        exact ret_cell2 rfl rfl rfl (hfin.out _ _ _ _ _ _).1 Try.underlying86 Try.sRp ⟨RetP.no hno.out, (hfin.out _ _ _ _ _ _).2⟩
      · have hyes : Hid (openP l = some ⟨(kk : Int), er, ps, al, strV tx, z⟩) := Lib.hid (by rw [hq.out, if_pos ⟨rfl, by omega⟩])
        clear hq
        go_wp2_with fail
        obtain ⟨Ab, cb, hvb, hrow, _⟩ := own_rowN (hfo.out (.int .i64 (kk : Int)) (.int .i64 er) (.int .i64 ps) (.slice Aa al.length ca) (.string (strV tx)) (.int .i64 z))
        injection hvb with hv1 _ hv2
        subst hv1 hv2
        exact ret_cell2 rfl rfl rfl (hfin.out _ _ _ _ _ _).1 Try.underlying86 Try.sRp ⟨RetP.ok hyes.out rfl hrow hca1.out, (hfin.out _ _ _ _ _ _).2⟩
end Go.Proofs.Ytimhghmnnibajaa
