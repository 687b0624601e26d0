/-
  The walk of pts.Text.
-/
import Derived.Test.YtkohobkeapcpfaaPtE
namespace Go.Proofs.Ytkohobkeapcpfaa
open Go.RowKit

def nul4 : S := [110, 117, 108, 108]
/-- The elements in braces. -/
def textL (p : Pz) : List S := (if p.nul = true then [nul4] else []) ++ canon p.cells
def textP (p : Pz) : S := 123 :: (Lib.join (textL p) [44] ++ [125])
theorem join_len {sep : S} {N : Nat} : ∀ (xs : List S), (∀ x ∈ xs, x.length ≤ N) → (Lib.join xs sep).length ≤ (N + sep.length) * xs.length
  | [], _ => by simp [Lib.join_nil]
  | [x], h => by
    rw [Lib.join_one]
    have := h x (List.mem_cons_self ..)
    simp
    omega
  | x :: y :: r, h => by
    have h1 := join_len (sep := sep) (N := N) (y :: r) fun z hz => h z (List.mem_cons_of_mem _ hz)
    have h2 := h x (List.mem_cons_self ..)
    have e : (Lib.join (x :: y :: r) sep).length = x.length + sep.length + (Lib.join (y :: r) sep).length := by
      unfold Lib.join
      rw [List.intercalate_cons_cons]
      simp
      omega
    rw [e]
    simp only [List.length_cons] at h1 ⊢
    rw [Nat.mul_add (N + sep.length) (r.length + 1) 1]
    omega
theorem toList_enc (xs : List S) : (xs.map fun x => (⟨x.toArray⟩ : ByteArray)).map (·.data.toList) = xs := by
  rw [List.map_map]
  conv => rhs; rw [← List.map_id xs]
  apply List.map_congr_left
  intro x _
  simp
theorem joinCall (w : World) (A : Option Addr) (n c : Nat) (xs : List S) (hn : xs.length = n) (hc : n ≤ c) (hr : Row w w.heap.size A (xs.map encStr)) (hx : ∀ x ∈ xs, x.length ≤ 10000) (hm : n ≤ 100000) :
    Calls Try.prog 29 #[.slice A n c, .string ⟨#[44]⟩] w fun e w' => e = .returned (.string ⟨(Lib.join xs [44]).toArray⟩) ∧ Below w.heap.size w w' := by
  subst hn
  cases xs with
  | nil =>
    refine (Try.strings_Join_none A c ⟨#[44]⟩ w).mono ?_
    rintro e w' ⟨rfl, rfl⟩
    exact ⟨rfl, Below.refl _ _⟩
  | cons x r =>
    obtain ⟨b, off, rfl, hb, hcell⟩ := hr (by simp)
    have h := Try.strings_Join b off c ((x :: r).map fun x => (⟨x.toArray⟩ : ByteArray)) ⟨#[44]⟩ w (fun j y hj => by
      rw [List.getElem?_map] at hj
      cases hg : (x :: r)[j]? with
      | none => rw [hg] at hj; cases hj
      | some z =>
        rw [hg] at hj
        simp only [Option.map_some, Option.some.injEq] at hj
        subst hj
        exact hcell j _ (by rw [List.getElem?_map, hg]; rfl)) hb (by rw [List.length_map]; omega) (by rw [List.length_map]; exact hc) (by
      rw [toList_enc]
      have := join_len (sep := [44]) (x :: r) hx
      have h2 : (⟨#[44]⟩ : ByteArray).data.toList = [44] := rfl
      rw [h2]
      simp only [List.length_cons, List.length_nil] at this hm ⊢
      omega)
    rw [toList_enc, List.length_map] at h
    exact h

theorem text_val (J : S) : (⟨#[123]⟩ ++ ⟨J.toArray⟩ ++ ⟨#[125]⟩ : ByteArray) = ⟨(123 :: (J ++ [125])).toArray⟩ := by
  apply ByteArray.ext
  simp
theorem below_grown {w0 w w' : World} {e : TypeId} {v : Value} {n : Nat} {xs : List Value} (hB : Below w0.heap.size w0 w) (ho : w.ownsRow w0.heap.size e 1 v n xs) (hg : w.grownBy w' v.ownBlock) : Below w0.heap.size w0 w' :=
  hB.trans ((Writes.of_grown hg (M := [v.ownBlock]) (by simp)).below hB.size (fun j hj => by
    rcases ho.2 with ⟨h, _⟩ | ⟨g, cap, cur2, h, hg, _⟩
    · rw [h] at hj; simp [Value.ownBlock] at hj
    · rw [h] at hj; simp [Value.ownBlock] at hj; omega))

set_option maxRecDepth 100000 in
set_option maxHeartbeats 1000000 in
theorem text_any (w0 : World) (p : Pz) (v : Value) (h : PtsV w0 p v) (hn : p.cells.length ≤ 10000) (hx : ∀ x ∈ p.cells, x.length ≤ 1000) :
    Calls Try.prog 19 #[v] w0 fun e w' => e = .returned (encStr (textP p)) ∧ Below w0.heap.size w0 w' := by
  obtain ⟨iS, hiS, hzS0, hzS1, hzS2⟩ := info_parts Try.infoStr
  obtain ⟨A, c, rfl, hr1, hc1⟩ := h
  obtain ⟨pn, pc⟩ := p
  simp only at hn hx hr1 hc1 ⊢
  have k1 := below_new w0 (.cells #[.bool pn, .slice A pc.length c] 25)
  have hp := Lib.hid (Holds.new w0 25 #[.bool pn, .slice A pc.length c])
  have hr := Lib.hid ((hr1.below k1).more k1.size)
  have hk := Lib.hid k1
  have hx' := Lib.hid hx
  have hcl : (canon pc).length ≤ 10000 := Nat.le_trans (canon_len pc) hn
  clear k1 hr1 hx
  cases pn with
  | false =>
    have hL := Lib.hid (Lists.one 23 (c := c) rfl hr.out)
    have hkk := Lib.hid (hk.out.trans ((below_new _ (.cells #[.slice A pc.length c] 23)).mono hk.out.size))
    go_enter Try.func19, Try.ntmps19
    go_wp2_with fail
    have hL2 := hL.out
    rw [show (w0.alloc (Obj.cells #[.bool false, .slice A pc.length c] 25)).heap.size = w0.heap.size + 1 by simp] at hL2
    clear hL
    generalize (w0.alloc (Obj.cells #[.bool false, .slice A pc.length c] 25)).alloc (Obj.cells #[.slice A pc.length c] 23) = w1 at *
    refine (ordered_any w1 (some ⟨w0.heap.size + 1, 0, none⟩) 1 1 [pc] rfl (by decide) hL2 (by simp; omega)).mono ?_
    rintro e w2 ⟨v2, rfl, ho2, hb2⟩
    clear hL2
    have hbA := hkk
    have hoA : Hid (w1.ownsRow w0.heap.size 9 1 (.slice none 0 0) 0 []) := Lib.hid (World.ownsRow_nil _ _ _ _)
    rw [show [pc].flatten = pc by simp] at ho2
    have ho5 := Lib.hid ho2
    obtain ⟨A2, c2, hv2, hr2, hc2⟩ := own_rowA ho2
    subst hv2
    have hr5 := Lib.hid hr2
    have ho3 := Lib.hid (own_below hoA.out hb2)
    have hb5 := Lib.hid (hbA.out.trans (hb2.mono hbA.out.size))
    have hs5 := Lib.hid hb5.out.size
    clear hb2 ho2 hr2
    generalize hcn : (canon pc).length = cn at *
    have hcn' := Lib.hid hcn
    clear hcn
    go_wp2_with
      (at_builtin
       go_loud (refine wpList_append_row _ rfl (.tmp 9) (.tmp 13) 23 rfl w0.heap.size 9 iS (.string ⟨#[]⟩) 16 Try.underlying23 hiS hzS0 hzS1 hzS2 rfl (.slice none 0 0) 0 [] rfl ho3.out w2.heap.size A2 cn c2 ((canon pc).map encStr) rfl (by rw [List.length_map]; exact hcn'.out) hr5.out enc_one (by unfold maxLen; omega) (by omega) hs5.out ?_)
       intro v6 w6 ho6 hg6 _
       have hb6 := Lib.hid (below_grown hb5.out ho3.out hg6)
       rw [Nat.zero_add] at ho6
       obtain ⟨A6, c6, hv6, hr6, hc6⟩ := own_rowA ho6
       subst hv6
       have hr6' := Lib.hid hr6
       clear ho6 hg6 hr6)
    have hj := (joinCall w6 A6 cn c6 (([] : List S) ++ canon pc) (by simp [hcn'.out]) hc6 (by simpa using hr6'.out) (fun x hx => by
      rcases List.mem_append.1 hx with h | h
      · simp at h
      · have := hx'.out x (mem_canon.1 h)
        omega) (by omega))
    with_reducible refine hj.mono ?_
    clear hj
    rintro e w7 ⟨rfl, hb7⟩
    have hb8 := Lib.hid (hb6.out.trans (hb7.mono hb6.out.size))
    clear hb7
    have hl8 : Hid ((Lib.join (([] : List S) ++ canon pc) [44]).length ≤ 1000000000) := Lib.hid (by
      have h1 := join_len (sep := [44]) (N := 10000) (([] : List S) ++ canon pc) (fun x hx => by
        rcases List.mem_append.1 hx with h | h
        · simp at h
        · have := hx'.out x (mem_canon.1 h)
          omega)
      have h2 : (([] : List S) ++ canon pc).length ≤ 10001 := by rw [List.length_append, hcn'.out]; simp; omega
      simp only [List.length_cons, List.length_nil] at h1
      omega)
    generalize hJ : Lib.join (([] : List S) ++ canon pc) [44] = J at *
    have hJ' := Lib.hid hJ
    clear hJ
    go_wp2_with fail
    case isTrue =>
      rename_i hbad
      have := hl8.out
      exfalso
      omega
    case isTrue =>
      rename_i hbad
      have := hl8.out
      exfalso
      omega
    go_ret
    refine ⟨?_, hb8.out⟩
    rw [text_val, ← hJ'.out]
    rfl
  | true =>
    have hrN := Lib.hid (Row.fresh (w0.alloc (Obj.cells #[.bool true, .slice A pc.length c] 25)) 9 [encStr nul4])
    have hkN := Lib.hid (hk.out.trans ((below_new _ (Obj.cells #[encStr nul4] 9)).mono hk.out.size))
    have hoN := Lib.hid (World.ownsRow_nil ((w0.alloc (Obj.cells #[.bool true, .slice A pc.length c] 25)).alloc (Obj.cells #[encStr nul4] 9)) w0.heap.size 9 1)
    have hpN := Lib.hid (hp.out.alloc (Obj.cells #[encStr nul4] 9))
    have hrA := Lib.hid ((hr.out.below (below_new _ (Obj.cells #[encStr nul4] 9))).more (below_new _ (Obj.cells #[encStr nul4] 9)).size)
    go_enter Try.func19, Try.ntmps19
    go_wp2_with
      (at_builtin
       have hrN2 := hrN.out
       rw [show (w0.alloc (Obj.cells #[.bool true, .slice A pc.length c] 25)).heap.size = w0.heap.size + 1 by simp] at hrN2
       go_loud (refine wpList_append_row _ rfl (.tmp 6) (.tmp 7) 23 rfl w0.heap.size 9 iS (.string ⟨#[]⟩) 16 Try.underlying23 hiS hzS0 hzS1 hzS2 rfl (.slice none 0 0) 0 [] rfl hoN.out _ (some ⟨w0.heap.size + 1, 0, none⟩) 1 1 [encStr nul4] rfl rfl hrN2 (by intro u hu; simp at hu; subst hu; rfl) (by unfold maxLen; omega) (by omega) (by simp; omega) ?_)
       intro v3 w3 ho3 hg3 _
       have hb3 := Lib.hid (below_grown hkN.out hoN.out hg3)
       have hp3 := hpN.out.grown hg3 (by simp [Value.ownBlock])
       have hw3 := (Writes.of_grown hg3 (M := [(Value.slice none 0 0).ownBlock]) (by simp))
       have hrB := (hw3.row hrA.out (Nat.le_refl _) (fun hne => by
         obtain ⟨b, off, e, _, _⟩ := hrA.out hne
         rw [e]
         simp [Value.ownBlock, blk])).more hw3.size
       have ho3' := Lib.hid ho3
       have z0 := (hp3.fact 0 rfl).2
       have z1 := (hp3.fact 1 rfl).2
       have f0 := hp3.frozen 0
       have f1 := hp3.frozen 1
       have hrB' := Lib.hid hrB
       clear ho3 hg3 hrN2 hp3 hw3 hrB)
    have hL := Lists.one 23 (c := c) rfl hrB'.out
    have hbA := Lib.hid (hb3.out.trans ((below_new w3 (Obj.cells #[.slice A pc.length c] 23)).mono hb3.out.size))
    have hoA := Lib.hid (own_below ho3'.out (below_new w3 (Obj.cells #[.slice A pc.length c] 23)))
    clear z0 z1 f0 f1
    refine (ordered_any _ (some ⟨w3.heap.size, 0, none⟩) 1 1 [pc] rfl (by decide) hL (by simp; omega)).mono ?_
    rintro e w2 ⟨v2, rfl, ho2, hb2⟩
    clear hL
    rw [show [pc].flatten = pc by simp] at ho2
    have ho5 := Lib.hid ho2
    obtain ⟨A2, c2, hv2, hr2, hc2⟩ := own_rowA ho2
    subst hv2
    have hr5 := Lib.hid hr2
    have ho3 := Lib.hid (own_below hoA.out hb2)
    have hb5 := Lib.hid (hbA.out.trans (hb2.mono hbA.out.size))
    have hs5 := Lib.hid hb5.out.size
    clear hb2 ho2 hr2
    generalize hcn : (canon pc).length = cn at *
    have hcn' := Lib.hid hcn
    clear hcn
    go_wp2_with
      (at_builtin
       go_loud (refine wpList_append_row _ rfl (.tmp 9) (.tmp 13) 23 rfl w0.heap.size 9 iS (.string ⟨#[]⟩) 16 Try.underlying23 hiS hzS0 hzS1 hzS2 rfl v3 1 [encStr nul4] rfl ho3.out w2.heap.size A2 cn c2 ((canon pc).map encStr) rfl (by rw [List.length_map]; exact hcn'.out) hr5.out enc_one (by unfold maxLen; omega) (by omega) hs5.out ?_)
       intro v6 w6 ho6 hg6 _
       have hb6 := Lib.hid (below_grown hb5.out ho3.out hg6)
       obtain ⟨A6, c6, hv6, hr6, hc6⟩ := own_rowA ho6
       subst hv6
       have hr6' := Lib.hid hr6
       clear ho6 hg6 hr6)
    have hj := (joinCall w6 A6 (1 + cn) c6 ([nul4] ++ canon pc) (by simp [hcn'.out]; omega) hc6 (by simpa using hr6'.out) (fun x hx => by
      rcases List.mem_append.1 hx with h | h
      · simp at h; subst h; decide
      · have := hx'.out x (mem_canon.1 h)
        omega) (by omega))
    with_reducible refine hj.mono ?_
    clear hj
    rintro e w7 ⟨rfl, hb7⟩
    have hb8 := Lib.hid (hb6.out.trans (hb7.mono hb6.out.size))
    clear hb7
    have hl8 : Hid ((Lib.join ([nul4] ++ canon pc) [44]).length ≤ 1000000000) := Lib.hid (by
      have h1 := join_len (sep := [44]) (N := 10000) ([nul4] ++ canon pc) (fun x hx => by
        rcases List.mem_append.1 hx with h | h
        · simp at h; subst h; decide
        · have := hx'.out x (mem_canon.1 h)
          omega)
      have h2 : ([nul4] ++ canon pc).length ≤ 10001 := by rw [List.length_append, hcn'.out]; simp; omega
      simp only [List.length_cons, List.length_nil] at h1
      omega)
    generalize hJ : Lib.join ([nul4] ++ canon pc) [44] = J at *
    have hJ' := Lib.hid hJ
    clear hJ
    go_wp2_with fail
    case isTrue =>
      rename_i hbad
      have := hl8.out
      exfalso
      omega
    case isTrue =>
      rename_i hbad
      have := hl8.out
      exfalso
      omega
    go_ret
    refine ⟨?_, hb8.out⟩
    rw [text_val, ← hJ'.out]
    rfl
end Go.Proofs.Ytkohobkeapcpfaa
