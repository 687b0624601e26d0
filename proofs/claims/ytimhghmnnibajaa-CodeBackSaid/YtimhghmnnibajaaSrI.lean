/-
  Plain laws: what is written is read back as it was. The statement's help 'plain'.
-/
import Derived.Test.YtimhghmnnibajaaSrG
import Derived.Test.YtimhghmnnibajaaCodeWc
import Derived.Test.YtimhghmnnibajaaCodeQ
import Derived.Deep.DeepCutAuto
namespace Go.Proofs.Ytimhghmnnibajaa
open Go.RowKit

def Iv.norm (v : Iv) : Iv := if v.s = true then v else ⟨false, 0, 0⟩
def Nm.norm (m : Nm) : Nm := ⟨m.name, m.v.norm⟩
def Sm.norm (s : Sm) : Sm := ⟨s.al, s.ends, s.ret.norm, s.md.map Nm.norm⟩
def i32ok (z : Int) : Prop := -2147483648 ≤ z ∧ z ≤ 2147483647
theorem strV_b (s : ByteArray) : strV s.data.toList = s := by
  unfold strV
  cases s
  simp
theorem txt_b (s : ByteArray) (l : List UInt8) (h : s.size < 18446744073709551616) : textR (txtE s ++ l) = some (s.data.toList, l) := by
  have e0 : s.data.toList.length = s.size := rfl
  have := textR_back s.data.toList l (by rw [e0]; exact h)
  unfold textE at this
  rw [e0] at this
  exact this
theorem small_b (z : Int) (l : List UInt8) (h : i32ok z) : smallR (intE z ++ l) = some (z, l) := by
  unfold smallR
  rw [intR_back z l (by have := h.1; omega) (by have := h.2; omega)]
  simp only [Option.bind_some]
  rw [if_pos (show -2147483648 ≤ z ∧ z ≤ 2147483647 from h)]
theorem iv_b (v : Iv) (l : List UInt8) (h : v.ok) : ivR (ivE v ++ l) = some (v.norm, l) := by
  unfold ivR ivE Iv.norm
  rw [List.append_assoc, boolR_back]
  simp only [Option.bind_some]
  cases hs : v.s with
  | false => simp
  | true =>
    simp only [if_true, List.append_assoc]
    rw [intR_back _ _ h.1.1 h.1.2]
    simp only [Option.bind_some]
    rw [intR_back _ _ h.2.1 h.2.2]
    obtain ⟨s, lo, hi⟩ := v
    simp only at hs
    subst hs
    rfl
theorem nm_b (m : Nm) (l : List UInt8) (h : m.ok 1000) : nmR (nmE m ++ l) = some (m.norm, l) := by
  unfold nmR nmE
  rw [List.append_assoc, txt_b _ _ (by have := h.1; omega)]
  simp only [Option.bind_some]
  rw [iv_b _ _ h.2, strV_b]
  rfl
theorem al_b (a : Al) (l : List UInt8) (h : i32ok a.pos ∧ i32ok a.kind) : alR (alE a ++ l) = some (a, l) := by
  unfold alR alE
  rw [List.append_assoc, small_b _ _ h.1]
  simp only [Option.bind_some]
  rw [small_b _ _ h.2]
  rfl
theorem rep_b {α : Type} {f : α → List UInt8} {r : List UInt8 → Option (α × List UInt8)} {g : α → α} (l : List UInt8) : ∀ (xs : List α), (∀ a ∈ xs, ∀ t, r (f a ++ t) = some (g a, t)) → rep r xs.length (xs.flatMap f ++ l) = some (xs.map g, l)
  | [], _ => rfl
  | a :: xs, h => by
    simp only [List.length_cons, List.flatMap_cons, List.append_assoc, rep]
    rw [h a (List.mem_cons_self ..)]
    simp only [Option.bind_some]
    rw [rep_b l xs fun x hx => h x (List.mem_cons_of_mem _ hx)]
    rfl
theorem num_pos (n : Nat) : 0 < (numE n).length := by
  unfold numE
  split <;> simp
theorem flat_count {α : Type} (f : α → List UInt8) (hf : ∀ a, 0 < (f a).length) : ∀ xs : List α, xs.length ≤ (xs.flatMap f).length
  | [] => by simp
  | a :: xs => by
    have := flat_count f hf xs
    have := hf a
    simp only [List.length_cons, List.flatMap_cons, List.length_append]
    omega
theorem count_b {α : Type} (f : α → List UInt8) (hf : ∀ a, 0 < (f a).length) (xs : List α) (l : List UInt8) (h : xs.length < 18446744073709551616) : countR (numE xs.length ++ (xs.flatMap f ++ l)) = some (xs.length, xs.flatMap f ++ l) := by
  unfold countR
  rw [numR_back _ _ h]
  simp only [Option.bind_some]
  have := flat_count f hf xs
  rw [if_pos (by rw [List.length_append]; omega)]
theorem sm_b (s : Sm) (l : List UInt8) (h : s.ok 1000) (h1 : s.al.length ≤ 1000) (h2 : s.md.length ≤ 1000) (ha : ∀ a ∈ s.al, i32ok a.pos ∧ i32ok a.kind) : smR (smE s ++ l) = some (s.norm, l) := by
  have e : smE s ++ l = numE s.al.length ++ (s.al.flatMap alE ++ (boolE s.ends ++ (ivE s.ret ++ (numE s.md.length ++ (s.md.flatMap nmE ++ l))))) := by simp [smE, alsE]
  rw [e]
  unfold smR alsR
  rw [count_b alE (fun a => by unfold alE intE; have := num_pos (zigN a.pos); rw [List.length_append]; omega) _ _ (by omega)]
  simp only [Option.bind_some]
  rw [rep_b (g := id) _ s.al fun a hm t => al_b a t (ha a hm)]
  simp only [Option.bind_some]
  rw [boolR_back]
  simp only [Option.bind_some]
  rw [iv_b _ _ h.2.1]
  simp only [Option.bind_some]
  rw [count_b nmE (fun a => by unfold nmE txtE; have := num_pos a.name.size; simp only [List.length_append]; omega) _ _ (by omega)]
  simp only [Option.bind_some]
  rw [rep_b (g := Nm.norm) _ s.md fun m hm t => nm_b m t (h.2.2 m hm)]
  simp [Sm.norm]

theorem own_setN {w : World} {B g n cap size : Nat} {e : TypeId} {xs : List Value} (h : w.ownsRow B e size (.slice (some ⟨g, 0, none⟩) n cap) n xs) (k : Nat) (u : Value) :
    (w.setCell ⟨g, k, none⟩ u).ownsRow B e size (.slice (some ⟨g, 0, none⟩) n cap) n (xs.set k u) := by
  refine ⟨by simpa using h.1, .inr ?_⟩
  rcases h.2 with ⟨h1, _⟩ | ⟨g', cap', cur, h1, h2, h3, h4, h5, h6, h7⟩
  · cases h1
  · simp only [Value.slice.injEq, Option.some.injEq, Addr.mk.injEq, and_true, true_and] at h1
    obtain ⟨rfl, rfl⟩ := h1
    refine ⟨g, cap, cur.setIfInBounds k u, rfl, h2, ?_, h4, h5, by simpa using h6, ?_⟩
    · simp [World.setCell, Array.getElem?_modify, h3]
    · rw [Array.toList_setIfInBounds, List.take_set, h7]
theorem own_atN {w : World} {B g n cap size : Nat} {e : TypeId} {xs : List Value} (h : w.ownsRow B e size (.slice (some ⟨g, 0, none⟩) n cap) n xs) (k : Nat) {u : Value} (hu : xs[k]? = some u) :
    w.cell? ⟨g, k, none⟩ = some u ∧ w.frozen? ⟨g, k, none⟩ = false := by
  rcases h.2 with ⟨h1, _⟩ | ⟨g', cap', cur, h1, h2, h3, h4, h5, h6, h7⟩
  · cases h1
  · simp only [Value.slice.injEq, Option.some.injEq, Addr.mk.injEq, and_true, true_and] at h1
    obtain ⟨rfl, rfl⟩ := h1
    have hc : Holds w g e cur := h3
    refine ⟨?_, hc.frozen k⟩
    rw [hc.cell k, ← hu, ← h7]
    rw [List.getElem?_take]
    have hk : k < n * size := by
      have := (List.getElem?_eq_some_iff.1 hu).1
      rw [h.1] at this
      exact this
    rw [if_pos hk]
    simp
/-- The first k taken as plain. -/
def normTo (k : Nat) (md : List Nm) : List Nm := (md.take k).map Nm.norm ++ md.drop k
theorem normTo_zero (md : List Nm) : normTo 0 md = md := by simp [normTo]
theorem normTo_all (md : List Nm) : normTo md.length md = md.map Nm.norm := by simp [normTo]
theorem normTo_len (k : Nat) (md : List Nm) : (normTo k md).length = md.length := by simp [normTo]; omega
theorem normTo_succ {k : Nat} {md : List Nm} (h : k < md.length) : normTo (k + 1) md = (normTo k md).set k md[k].norm := by
  unfold normTo
  rw [List.take_succ_eq_append_getElem h, List.map_append, List.append_assoc]
  rw [List.set_append_right _ _ (by simp; omega)]
  have hd := List.drop_eq_getElem_cons h
  rw [show (md.take k).map Nm.norm = (md.take k).map Nm.norm from rfl]
  simp only [List.length_map, List.length_take, Nat.min_eq_left (Nat.le_of_lt h), Nat.sub_self, List.map_cons, List.map_nil, List.cons_append, List.nil_append]
  rw [hd]
  rfl
theorem normTo_at {k : Nat} {md : List Nm} (h : k < md.length) : (normTo k md)[k]'(by rw [normTo_len]; exact h) = md[k] := by
  unfold normTo
  rw [List.getElem_append_right (by simp; omega)]
  simp [List.length_take, Nat.min_eq_left (Nat.le_of_lt h)]

section
variable {P : Program} (w : World)
/-- append onto an owned row of elements of one cell; the source lies anywhere, or is empty. -/
theorem run_append_rowN (base : Nat) (t ty e : TypeId) (i : TypeInfo) (z : Value) (size bytes : Nat) (ht : P.underlying t = some (.slice e)) (hi : P.info? e = some i) (hz : i.zero = some z)
    (hsize : i.size = size) (hsz : 0 < size) (hby : i.bytes = bytes) (hzs : z.cells.size = size)
    (v : Value) (n : Nat) (xs : List Value) (hown : w.ownsRow base e size v n xs)
    (B : Nat) (A : Option Addr) (m c : Nat) (news : List Value) (hl : news.length = m * size) (hr : Row w B A news) (h1 : ∀ u ∈ news, u.oneCell' = true)
    (h63 : n + m ≤ maxLen) (hbytes : (n + m) * bytes ≤ 140737488355328) (hbase : base ≤ w.heap.size) :
    ∃ v' w', (Builtin.append_ #[t, t] ty #[v, .slice A m c]).run P w = .ok v' w' ∧ w'.ownsRow base e size v' (n + m) (xs ++ news) ∧ w.grownBy w' v.ownBlock ∧ (v'.ownBlock = v.ownBlock ∨ v'.ownBlock = some w.heap.size) := by
  rcases A with _ | ad
  · have hn : news = [] := by
      rcases news with _ | ⟨a, r⟩
      · rfl
      · obtain ⟨_, _, h, _⟩ := hr (by simp); cases h
    subst hn
    obtain rfl : m = 0 := by 
      rcases Nat.eq_zero_or_pos m with h | h
      · exact h
      · have := Nat.mul_pos h hsz
        simp at hl
        omega
    exact ⟨v, w, run_append_empty w base t ty e i size ht hi v n xs hown c, by simpa using hown, World.grownBy.refl w _, .inl rfl⟩
  · have hcells : ∀ j u, news[j]? = some u → w.cell? (ad.add j) = some u := by
      intro j u hu
      obtain ⟨b, off, h, _, hc⟩ := hr (by rintro rfl; simp at hu)
      injection h with h
      subst h
      have hadd : (⟨b, off, none⟩ : Addr).add j = ⟨b, off + j, none⟩ := by unfold Addr.add; split <;> simp_all
      rw [hadd]
      exact hc j u hu
    obtain ⟨v', w', hrun, h2, h3, _, h5⟩ := run_append_own_at (P := P) w base t ty e i z size bytes ht hi hz hsize hby hzs hsz v n xs hown ad m c news hl hcells h1 h63 hbytes hbase
    exact ⟨v', w', hrun, h2, h3, h5⟩

theorem wpList_append_rowN {ops : Array Oper} {rest : List Oper} {o : Oper} {a : Act} {Q : Exit → Act → World → Prop} (hgd : o.guard = none) (s x : Operand) (t : TypeId)
    (ho : o.op = .call { callee := .builtin .append, args := #[s, x], argTypes := #[t, t] })
    (base : Nat) (e : TypeId) (i : TypeInfo) (z : Value) (size bytes : Nat) (ht : P.underlying t = some (.slice e)) (hi : P.info? e = some i) (hz : i.zero = some z)
    (hsize : i.size = size) (hsz : 0 < size) (hby : i.bytes = bytes) (hzs : z.cells.size = size)
    (v : Value) (n : Nat) (xs : List Value) (hs : a.eval s = v) (hown : w.ownsRow base e size v n xs)
    (B : Nat) (A : Option Addr) (m c : Nat) (news : List Value) (hx : a.eval x = .slice A m c) (hl : news.length = m * size) (hr : Row w B A news) (h1 : ∀ u ∈ news, u.oneCell' = true)
    (h63 : n + m ≤ maxLen) (hbytes : (n + m) * bytes ≤ 140737488355328) (hbase : base ≤ w.heap.size)
    (h : ∀ v' w', w'.ownsRow base e size v' (n + m) (xs ++ news) → w.grownBy w' v.ownBlock → (v'.ownBlock = v.ownBlock ∨ v'.ownBlock = some w.heap.size) → wpList P ops Q rest (a.put o.dst v') w') : wpList P ops Q (o :: rest) a w := by
  refine wpList_plain hgd fun K hK => ?_
  obtain ⟨v', w', hrun, h2, h3, h4⟩ := run_append_rowN (P := P) w base t o.type e i z size bytes ht hi hz hsize hsz hby hzs v n xs hown B A m c news hl hr h1 h63 hbytes hbase
  unfold Oper.wp execOp
  simp only [ho, resolve, invoke, builtin, Sem.run_bind, Sem.run_pure, Result.andThen_ok, List.map_toArray, List.map_cons, List.map_nil, hs, hx, hrun]
  exact hK _ _ (h v' w' h2 h3 h4)

end
theorem flat_cells4 (md : List Nm) : (md.flatMap Nm.cells).length = md.length * 4 := by
  induction md with
  | nil => rfl
  | cons m md ih => simp only [List.flatMap_cons, List.length_append, ih, List.length_cons, Nm.cells, Iv.cells, List.length_nil]; omega
theorem nm_one {md : List Nm} : ∀ u ∈ md.flatMap Nm.cells, u.oneCell' = true := by
  intro u hu
  obtain ⟨m, _, hm⟩ := List.mem_flatMap.1 hu
  simp [Nm.cells, Iv.cells] at hm
  rcases hm with rfl | rfl | rfl | rfl <;> rfl
/-- Three cells of a row of fours. -/
theorem set3_flat (md : List Nm) (k : Nat) (h : k < md.length) (v : Iv) :
    (((md.flatMap Nm.cells).set (k * 4 + 1) (.bool v.s)).set (k * 4 + 2) (.int .i64 v.lo)).set (k * 4 + 3) (.int .i64 v.hi) = (md.set k ⟨md[k].name, v⟩).flatMap Nm.cells := by
  induction md generalizing k with
  | nil => simp at h
  | cons m md ih =>
    cases k with
    | zero => simp [Nm.cells, Iv.cells]
    | succ k =>
      have := ih k (by simpa using h)
      simp only [List.flatMap_cons, List.set_cons_succ, List.getElem_cons_succ]
      rw [← this]
      have e : ∀ (ys : List Value) (r : Nat) (u : Value), (m.cells ++ ys).set ((k + 1) * 4 + r) u = m.cells ++ ys.set (k * 4 + r) u := fun ys r u => by
        rw [List.set_append_right _ _ (by simp [Nm.cells, Iv.cells]; omega)]
        simp only [Nm.cells, Iv.cells, List.length_cons, List.length_nil]
        congr 2
        omega
      rw [e, e, e]

set_option maxRecDepth 100000 in
set_option maxHeartbeats 8000000 in
theorem plain_B (w : World) (B0 : Nat) (hB0 : Hid (B0 ≤ w.heap.size)) (A1 : Option Addr) (n1 c1 n2 c2 : Nat) (A2 : Option Addr) (en rs : Bool) (lo hi : Int) (md : List Nm) (hmd : Hid (md.length = n2)) (hm2 : n2 ≤ 1000) (hA2 : Hid (Row w w.heap.size A2 (md.flatMap Nm.cells))) :
    Calls Try.prog 41 #[.agg #[.slice A1 n1 c1, .bool en, .bool rs, .int .i64 lo, .int .i64 hi, .slice A2 n2 c2]] w fun e w' => (∃ v2, e = .returned (.agg #[.slice A1 n1 c1, .bool en, .bool (Iv.norm ⟨rs, lo, hi⟩).s, .int .i64 (Iv.norm ⟨rs, lo, hi⟩).lo, .int .i64 (Iv.norm ⟨rs, lo, hi⟩).hi, v2]) ∧ w'.ownsRow B0 118 4 v2 n2 ((md.map Nm.norm).flatMap Nm.cells)) ∧ Below B0 w w' := by
  obtain ⟨iN, hiN, hzN0, hzN1, hzN2⟩ := info_parts Try.infoNm
  go_enter Try.func41, Try.ntmps41
  cases rs
  case true =>
    have k1 := below_new w (.cells #[.slice A1 n1 c1, .bool en, .bool true, .int .i64 lo, .int .i64 hi, .slice A2 n2 c2] 61)
    have k2 := k1.trans ((below_new (w.alloc (.cells #[.slice A1 n1 c1, .bool en, .bool true, .int .i64 lo, .int .i64 hi, .slice A2 n2 c2] 61)) (.cells #[.slice none 0 0, .bool false, .bool false, .int .i64 0, .int .i64 0, .slice none 0 0] 61)).mono k1.size)
    have hAx := Lib.hid ((hA2.out.below k2).more k2.size)
    have hp := Lib.hid ((Holds.new w 61 #[.slice A1 n1 c1, .bool en, .bool true, .int .i64 lo, .int .i64 hi, .slice A2 n2 c2]).alloc (.cells #[.slice none 0 0, .bool false, .bool false, .int .i64 0, .int .i64 0, .slice none 0 0] 61))
    have hq0 := Holds.new (w.alloc (.cells #[.slice A1 n1 c1, .bool en, .bool true, .int .i64 lo, .int .i64 hi, .slice A2 n2 c2] 61)) 61 #[.slice none 0 0, .bool false, .bool false, .int .i64 0, .int .i64 0, .slice none 0 0]
    rw [show (w.alloc (.cells #[.slice A1 n1 c1, .bool en, .bool true, .int .i64 lo, .int .i64 hi, .slice A2 n2 c2] 61)).heap.size = w.heap.size + 1 by simp] at hq0
    have hq := Lib.hid hq0
    have hk := Lib.hid k2
    have hsz := Lib.hid (show ((w.alloc (.cells #[.slice A1 n1 c1, .bool en, .bool true, .int .i64 lo, .int .i64 hi, .slice A2 n2 c2] 61)).alloc (.cells #[.slice none 0 0, .bool false, .bool false, .int .i64 0, .int .i64 0, .slice none 0 0] 61)).heap.size = w.heap.size + 2 by simp)
    clear k1 k2 hq0
    go_wp2_with
      (at_builtin
       refine wpList_append_rowN _ rfl (.const (.slice none 0 0)) (.tmp 11) 59 rfl ((w.alloc (.cells #[.slice A1 n1 c1, .bool en, .bool true, .int .i64 lo, .int .i64 hi, .slice A2 n2 c2] 61)).alloc (.cells #[.slice none 0 0, .bool false, .bool false, .int .i64 0, .int .i64 0, .slice none 0 0] 61)).heap.size 118 iN (.agg #[.string ⟨#[]⟩, .bool false, .int .i64 0, .int .i64 0]) 4 40 Try.underlying59 hiN hzN0 hzN1 (by omega) hzN2 rfl (.slice none 0 0) 0 [] rfl (World.ownsRow_nil _ _ _ _) ((w.alloc (.cells #[.slice A1 n1 c1, .bool en, .bool true, .int .i64 lo, .int .i64 hi, .slice A2 n2 c2] 61)).alloc (.cells #[.slice none 0 0, .bool false, .bool false, .int .i64 0, .int .i64 0, .slice none 0 0] 61)).heap.size A2 n2 c2 (md.flatMap Nm.cells) rfl (by rw [flat_cells4, hmd.out]) hAx.out nm_one (by unfold maxLen; omega) (by omega) (Nat.le_refl _) ?_
       intro v3 w5 ho5 hg5 _
       simp only [Nat.zero_add, List.nil_append] at ho5
       obtain ⟨A3, c3, rfl, _, _⟩ := own_rowN ho5
       have hM5 := Lib.hid (show Writes [none] ((w.alloc (.cells #[.slice A1 n1 c1, .bool en, .bool true, .int .i64 lo, .int .i64 hi, .slice A2 n2 c2] 61)).alloc (.cells #[.slice none 0 0, .bool false, .bool false, .int .i64 0, .int .i64 0, .slice none 0 0] 61)) w5 from Writes.of_grown hg5 (by simp [Value.ownBlock]))
       have hS5 := Lib.hid (hM5.out.holds hp.out (by simp))
       have z5 := (hS5.out.fact 5 rfl).2
       have f5 := hS5.out.frozen 5
       have ho5' := Lib.hid ho5
       clear ho5 hg5)
    have hst := Writes.store w5 (M := [some w.heap.size]) (p := ⟨w.heap.size, 5, none⟩) (by simp) (.slice A3 n2 c3)
    have hS6 := Lib.hid (show Holds (w5.setCell ⟨w.heap.size, 5, none⟩ (.slice A3 n2 c3)) w.heap.size 61 #[.slice A1 n1 c1, .bool en, .bool true, .int .i64 lo, .int .i64 hi, .slice A3 n2 c3] by have := hS5.out.store 5 (.slice A3 n2 c3); simpa using this)
    have hZ6 := Lib.hid (hst.holds (hM5.out.holds hq.out (by simp)) (by simp))
    have ho6 := own_above ho5'.out hst (fun j hj => by have := hsz.out; simp at hj; omega)
    rw [← normTo_zero md, normTo_zero md] at ho6
    have ho6' := Lib.hid ho6
    have hk6 := Lib.hid ((hk.out.trans (hM5.out.below hk.out.size (fun j hj => by simp at hj))).trans (hst.below (Nat.le_trans hk.out.size hM5.out.size) (fun j hj => by simp at hj; omega)))
    clear hst hS5 hM5 ho5' ho6 hk hp hq hAx z5 f5
    generalize ((w.alloc (.cells #[.slice A1 n1 c1, .bool en, .bool true, .int .i64 lo, .int .i64 hi, .slice A2 n2 c2] 61)).alloc (.cells #[.slice none 0 0, .bool false, .bool false, .int .i64 0, .int .i64 0, .slice none 0 0] 61)).heap.size = XB at ho6' hsz
    generalize w5.setCell ⟨w.heap.size, 5, none⟩ (.slice A3 n2 c3) = w6 at hS6 hZ6 ho6' hk6 ⊢
    generalize hsb : w.heap.size = sb at hS6 hZ6 hsz ⊢
    have hsb := Lib.hid hsb
    rename_i u1
    clear u1
    go_loopw [3] (fun i wr => ∃ k : Nat, k ≤ n2 ∧ i = .int .i64 k ∧ Holds wr sb 61 #[.slice A1 n1 c1, .bool en, .bool true, .int .i64 lo, .int .i64 hi, .slice A3 n2 c3] ∧ Holds wr (sb + 1) 61 #[.slice none 0 0, .bool false, .bool false, .int .i64 0, .int .i64 0, .slice none 0 0] ∧ wr.ownsRow XB 118 4 (.slice A3 n2 c3) n2 ((normTo k md).flatMap Nm.cells) ∧ Below w.heap.size w wr) (fun i _ => n2 - (intOf i).toNat)
    case atStart => exact ⟨0, by omega, rfl, hS6.out, hZ6.out, by rw [normTo_zero]; exact ho6'.out, hk6.out⟩
    clear hS6 hZ6 ho6' hk6
    obtain ⟨k, hk, rfl, hS0, hZ0, ho0, hb0⟩ := hrel
    have z0 := (hS0.fact 0 rfl).2
    have z1 := (hS0.fact 1 rfl).2
    have z2 := (hS0.fact 2 rfl).2
    have z3 := (hS0.fact 3 rfl).2
    have z4 := (hS0.fact 4 rfl).2
    have z5 := (hS0.fact 5 rfl).2
    have hS := Lib.hid hS0
    have hZ := Lib.hid hZ0
    have ho := Lib.hid ho0
    have hb := Lib.hid hb0
    clear hS0 hZ0 hb0
    by_cases hlt : k < n2
    · have hlt2 : k < md.length := by rw [hmd.out]; exact hlt
      obtain ⟨g3, rfl, hg3⟩ : ∃ g, A3 = some ⟨g, 0, none⟩ ∧ XB ≤ g := by
        rcases ho0.2 with ⟨h, _⟩ | ⟨g, cap, cur, h, hg, _⟩
        · simp at h; omega
        · simp only [Value.slice.injEq] at h
          exact ⟨g, h.1, hg⟩
      have hgs : ¬ g3 = sb := by have := hsz.out; omega
      have hgs2 : ¬ sb = g3 := by omega
      have hat := fun (r : Nat) (u : Value) (h : (md[k]).cells[r]? = some u) => own_atN ho0 (k * 4 + r) (flatMap_at (C := 4) (f := Nm.cells) (normTo k md) (fun _ _ => rfl) (by rw [normTo_len]; exact hlt2) (by rw [normTo_at hlt2]; exact h))
      obtain ⟨y1, f1⟩ := hat 1 _ rfl
      obtain ⟨y2, f2⟩ := hat 2 _ rfl
      obtain ⟨y3, f3⟩ := hat 3 _ rfl
      have hnx := Lib.hid (normTo_succ hlt2)
      have hat2 := Lib.hid (normTo_at hlt2)
      have hlk := Lib.hid (show k < (normTo k md).length by rw [normTo_len]; exact hlt2)
      have hnm : Hid (md[k].norm = ⟨md[k].name, md[k].v.norm⟩) := Lib.hid rfl
      clear hat ho0
      cases hs : md[k].v.s with
      | true =>
        rw [hs] at y1
        have hs' := Lib.hid hs
        clear hs y2 y3 f1 f2 f3
        go_wp2_with fail
        go_roundw
        case rel =>
          refine ⟨k + 1, by omega, by go_num, hS.out, hZ.out, ?_, hb.out⟩
          have e : normTo (k + 1) md = normTo k md := by
            rw [hnx.out, hnm.out]
            have : (⟨md[k].name, md[k].v.norm⟩ : Nm) = md[k] := by unfold Iv.norm; rw [if_pos hs'.out]
            rw [this, ← hat2.out]
            exact List.set_getElem_self _
          rw [e]
          exact ho.out
        case measure => simp [intOf]; omega
      | false =>
        rw [hs] at y1
        have hs' := Lib.hid hs
        have hs3 := Writes.store wr (M := [some g3]) (p := ⟨g3, k * 4 + 1, none⟩) (by simp) (.bool false)
        have hs4 := Writes.store (wr.setCell ⟨g3, k * 4 + 1, none⟩ (.bool false)) (M := [some g3]) (p := ⟨g3, k * 4 + 2, none⟩) (by simp) (.int .i64 0)
        have hs5 := Writes.store ((wr.setCell ⟨g3, k * 4 + 1, none⟩ (.bool false)).setCell ⟨g3, k * 4 + 2, none⟩ (.int .i64 0)) (M := [some g3]) (p := ⟨g3, k * 4 + 3, none⟩) (by simp) (.int .i64 0)
        have hsw := Lib.hid ((hs3.trans hs4).trans hs5)
        have hox := Lib.hid (own_setN (own_setN (own_setN ho.out (k * 4 + 1) (.bool false)) (k * 4 + 2) (.int .i64 0)) (k * 4 + 3) (.int .i64 0))
        clear hs hs3 hs4 hs5
        go_wp2_with fail
        go_roundw
        case rel =>
          refine ⟨k + 1, by omega, by go_num, hsw.out.holds hS.out (by simpa using hgs2), hsw.out.holds hZ.out (by have := hsz.out; simp; omega), ?_, hb.out.trans (hsw.out.below hb.out.size (fun j hj => by have := hsb.out; have := hsz.out; simp at hj; omega))⟩
          have e := set3_flat (normTo k md) k hlk.out ⟨false, 0, 0⟩
          rw [hat2.out] at e
          have e2 : (⟨md[k].name, ⟨false, 0, 0⟩⟩ : Nm) = md[k].norm := by rw [hnm.out]; unfold Iv.norm; rw [if_neg (by rw [hs'.out]; simp)]
          rw [e2, ← hnx.out] at e
          rw [← e]
          exact hox.out
        case measure => simp [intOf]; omega
    · obtain rfl : k = n2 := by omega
      have y0 := (hZ.out.fact 0 rfl).2
      have y1 := (hZ.out.fact 1 rfl).2
      have y2 := (hZ.out.fact 2 rfl).2
      have y3 := (hZ.out.fact 3 rfl).2
      have y4 := (hZ.out.fact 4 rfl).2
      have y5 := (hZ.out.fact 5 rfl).2
      have f0 := hZ.out.frozen 0
      have f1 := hZ.out.frozen 1
      have f2 := hZ.out.frozen 2
      have f3 := hZ.out.frozen 3
      have f4 := hZ.out.frozen 4
      have f5 := hZ.out.frozen 5
      clear ho0
      go_wp2_with fail
      have hst := writes_store6 wr (sb + 1) (.slice A1 n1 c1) (.bool en) (.bool true) (.int .i64 lo) (.int .i64 hi) (.slice A3 k c3)
      refine ret_cell1 rfl rfl rfl (hZ.out.store6 (.slice A1 n1 c1) (.bool en) (.bool true) (.int .i64 lo) (.int .i64 hi) (.slice A3 k c3)) Try.underlying61 Try.sSm ⟨⟨_, rfl, ?_⟩, ?_⟩
      · have h9 := own_above ho.out hst (fun j hj => by have := hsz.out; simp at hj; omega)
        rw [show normTo k md = md.map Nm.norm by rw [← hmd.out]; exact normTo_all md] at h9
        exact own_base h9 (by have := hsz.out; have := hsb.out; have := hB0.out; omega)
      · exact (hb.out.trans (hst.below hb.out.size (fun j hj => by have := hsb.out; simp at hj; omega))).mono hB0.out
  case false =>
    have k1 := below_new w (.cells #[.slice A1 n1 c1, .bool en, .bool false, .int .i64 0, .int .i64 0, .slice A2 n2 c2] 61)
    have k2 := k1.trans ((below_new (w.alloc (.cells #[.slice A1 n1 c1, .bool en, .bool false, .int .i64 0, .int .i64 0, .slice A2 n2 c2] 61)) (.cells #[.slice none 0 0, .bool false, .bool false, .int .i64 0, .int .i64 0, .slice none 0 0] 61)).mono k1.size)
    have hAx := Lib.hid ((hA2.out.below k2).more k2.size)
    have hp := Lib.hid ((Holds.new w 61 #[.slice A1 n1 c1, .bool en, .bool false, .int .i64 0, .int .i64 0, .slice A2 n2 c2]).alloc (.cells #[.slice none 0 0, .bool false, .bool false, .int .i64 0, .int .i64 0, .slice none 0 0] 61))
    have hq0 := Holds.new (w.alloc (.cells #[.slice A1 n1 c1, .bool en, .bool false, .int .i64 0, .int .i64 0, .slice A2 n2 c2] 61)) 61 #[.slice none 0 0, .bool false, .bool false, .int .i64 0, .int .i64 0, .slice none 0 0]
    rw [show (w.alloc (.cells #[.slice A1 n1 c1, .bool en, .bool false, .int .i64 0, .int .i64 0, .slice A2 n2 c2] 61)).heap.size = w.heap.size + 1 by simp] at hq0
    have hq := Lib.hid hq0
    have hk := Lib.hid k2
    have hsz := Lib.hid (show ((w.alloc (.cells #[.slice A1 n1 c1, .bool en, .bool false, .int .i64 0, .int .i64 0, .slice A2 n2 c2] 61)).alloc (.cells #[.slice none 0 0, .bool false, .bool false, .int .i64 0, .int .i64 0, .slice none 0 0] 61)).heap.size = w.heap.size + 2 by simp)
    clear k1 k2 hq0
    go_wp2_with
      (at_builtin
       refine wpList_append_rowN _ rfl (.const (.slice none 0 0)) (.tmp 11) 59 rfl ((w.alloc (.cells #[.slice A1 n1 c1, .bool en, .bool false, .int .i64 0, .int .i64 0, .slice A2 n2 c2] 61)).alloc (.cells #[.slice none 0 0, .bool false, .bool false, .int .i64 0, .int .i64 0, .slice none 0 0] 61)).heap.size 118 iN (.agg #[.string ⟨#[]⟩, .bool false, .int .i64 0, .int .i64 0]) 4 40 Try.underlying59 hiN hzN0 hzN1 (by omega) hzN2 rfl (.slice none 0 0) 0 [] rfl (World.ownsRow_nil _ _ _ _) ((w.alloc (.cells #[.slice A1 n1 c1, .bool en, .bool false, .int .i64 0, .int .i64 0, .slice A2 n2 c2] 61)).alloc (.cells #[.slice none 0 0, .bool false, .bool false, .int .i64 0, .int .i64 0, .slice none 0 0] 61)).heap.size A2 n2 c2 (md.flatMap Nm.cells) rfl (by rw [flat_cells4, hmd.out]) hAx.out nm_one (by unfold maxLen; omega) (by omega) (Nat.le_refl _) ?_
       intro v3 w5 ho5 hg5 _
       simp only [Nat.zero_add, List.nil_append] at ho5
       obtain ⟨A3, c3, rfl, _, _⟩ := own_rowN ho5
       have hM5 := Lib.hid (show Writes [none] ((w.alloc (.cells #[.slice A1 n1 c1, .bool en, .bool false, .int .i64 0, .int .i64 0, .slice A2 n2 c2] 61)).alloc (.cells #[.slice none 0 0, .bool false, .bool false, .int .i64 0, .int .i64 0, .slice none 0 0] 61)) w5 from Writes.of_grown hg5 (by simp [Value.ownBlock]))
       have hS5 := Lib.hid (hM5.out.holds hp.out (by simp))
       have z5 := (hS5.out.fact 5 rfl).2
       have f5 := hS5.out.frozen 5
       have ho5' := Lib.hid ho5
       clear ho5 hg5)
    have hst := Writes.store w5 (M := [some w.heap.size]) (p := ⟨w.heap.size, 5, none⟩) (by simp) (.slice A3 n2 c3)
    have hS6 := Lib.hid (show Holds (w5.setCell ⟨w.heap.size, 5, none⟩ (.slice A3 n2 c3)) w.heap.size 61 #[.slice A1 n1 c1, .bool en, .bool false, .int .i64 0, .int .i64 0, .slice A3 n2 c3] by have := hS5.out.store 5 (.slice A3 n2 c3); simpa using this)
    have hZ6 := Lib.hid (hst.holds (hM5.out.holds hq.out (by simp)) (by simp))
    have ho6 := own_above ho5'.out hst (fun j hj => by have := hsz.out; simp at hj; omega)
    rw [← normTo_zero md, normTo_zero md] at ho6
    have ho6' := Lib.hid ho6
    have hk6 := Lib.hid ((hk.out.trans (hM5.out.below hk.out.size (fun j hj => by simp at hj))).trans (hst.below (Nat.le_trans hk.out.size hM5.out.size) (fun j hj => by simp at hj; omega)))
    clear hst hS5 hM5 ho5' ho6 hk hp hq hAx z5 f5
    generalize ((w.alloc (.cells #[.slice A1 n1 c1, .bool en, .bool false, .int .i64 0, .int .i64 0, .slice A2 n2 c2] 61)).alloc (.cells #[.slice none 0 0, .bool false, .bool false, .int .i64 0, .int .i64 0, .slice none 0 0] 61)).heap.size = XB at ho6' hsz
    generalize w5.setCell ⟨w.heap.size, 5, none⟩ (.slice A3 n2 c3) = w6 at hS6 hZ6 ho6' hk6 ⊢
    generalize hsb : w.heap.size = sb at hS6 hZ6 hsz ⊢
    have hsb := Lib.hid hsb
    rename_i u1
    clear u1
    go_loopw [3] (fun i wr => ∃ k : Nat, k ≤ n2 ∧ i = .int .i64 k ∧ Holds wr sb 61 #[.slice A1 n1 c1, .bool en, .bool false, .int .i64 0, .int .i64 0, .slice A3 n2 c3] ∧ Holds wr (sb + 1) 61 #[.slice none 0 0, .bool false, .bool false, .int .i64 0, .int .i64 0, .slice none 0 0] ∧ wr.ownsRow XB 118 4 (.slice A3 n2 c3) n2 ((normTo k md).flatMap Nm.cells) ∧ Below w.heap.size w wr) (fun i _ => n2 - (intOf i).toNat)
    case atStart => exact ⟨0, by omega, rfl, hS6.out, hZ6.out, by rw [normTo_zero]; exact ho6'.out, hk6.out⟩
    clear hS6 hZ6 ho6' hk6
    obtain ⟨k, hk, rfl, hS0, hZ0, ho0, hb0⟩ := hrel
    have z0 := (hS0.fact 0 rfl).2
    have z1 := (hS0.fact 1 rfl).2
    have z2 := (hS0.fact 2 rfl).2
    have z3 := (hS0.fact 3 rfl).2
    have z4 := (hS0.fact 4 rfl).2
    have z5 := (hS0.fact 5 rfl).2
    have hS := Lib.hid hS0
    have hZ := Lib.hid hZ0
    have ho := Lib.hid ho0
    have hb := Lib.hid hb0
    clear hS0 hZ0 hb0
    by_cases hlt : k < n2
    · have hlt2 : k < md.length := by rw [hmd.out]; exact hlt
      obtain ⟨g3, rfl, hg3⟩ : ∃ g, A3 = some ⟨g, 0, none⟩ ∧ XB ≤ g := by
        rcases ho0.2 with ⟨h, _⟩ | ⟨g, cap, cur, h, hg, _⟩
        · simp at h; omega
        · simp only [Value.slice.injEq] at h
          exact ⟨g, h.1, hg⟩
      have hgs : ¬ g3 = sb := by have := hsz.out; omega
      have hgs2 : ¬ sb = g3 := by omega
      have hat := fun (r : Nat) (u : Value) (h : (md[k]).cells[r]? = some u) => own_atN ho0 (k * 4 + r) (flatMap_at (C := 4) (f := Nm.cells) (normTo k md) (fun _ _ => rfl) (by rw [normTo_len]; exact hlt2) (by rw [normTo_at hlt2]; exact h))
      obtain ⟨y1, f1⟩ := hat 1 _ rfl
      obtain ⟨y2, f2⟩ := hat 2 _ rfl
      obtain ⟨y3, f3⟩ := hat 3 _ rfl
      have hnx := Lib.hid (normTo_succ hlt2)
      have hat2 := Lib.hid (normTo_at hlt2)
      have hlk := Lib.hid (show k < (normTo k md).length by rw [normTo_len]; exact hlt2)
      have hnm : Hid (md[k].norm = ⟨md[k].name, md[k].v.norm⟩) := Lib.hid rfl
      clear hat ho0
      cases hs : md[k].v.s with
      | true =>
        rw [hs] at y1
        have hs' := Lib.hid hs
        clear hs y2 y3 f1 f2 f3
        go_wp2_with fail
        go_roundw
        case rel =>
          refine ⟨k + 1, by omega, by go_num, hS.out, hZ.out, ?_, hb.out⟩
          have e : normTo (k + 1) md = normTo k md := by
            rw [hnx.out, hnm.out]
            have : (⟨md[k].name, md[k].v.norm⟩ : Nm) = md[k] := by unfold Iv.norm; rw [if_pos hs'.out]
            rw [this, ← hat2.out]
            exact List.set_getElem_self _
          rw [e]
          exact ho.out
        case measure => simp [intOf]; omega
      | false =>
        rw [hs] at y1
        have hs' := Lib.hid hs
        have hs3 := Writes.store wr (M := [some g3]) (p := ⟨g3, k * 4 + 1, none⟩) (by simp) (.bool false)
        have hs4 := Writes.store (wr.setCell ⟨g3, k * 4 + 1, none⟩ (.bool false)) (M := [some g3]) (p := ⟨g3, k * 4 + 2, none⟩) (by simp) (.int .i64 0)
        have hs5 := Writes.store ((wr.setCell ⟨g3, k * 4 + 1, none⟩ (.bool false)).setCell ⟨g3, k * 4 + 2, none⟩ (.int .i64 0)) (M := [some g3]) (p := ⟨g3, k * 4 + 3, none⟩) (by simp) (.int .i64 0)
        have hsw := Lib.hid ((hs3.trans hs4).trans hs5)
        have hox := Lib.hid (own_setN (own_setN (own_setN ho.out (k * 4 + 1) (.bool false)) (k * 4 + 2) (.int .i64 0)) (k * 4 + 3) (.int .i64 0))
        clear hs hs3 hs4 hs5
        go_wp2_with fail
        go_roundw
        case rel =>
          refine ⟨k + 1, by omega, by go_num, hsw.out.holds hS.out (by simpa using hgs2), hsw.out.holds hZ.out (by have := hsz.out; simp; omega), ?_, hb.out.trans (hsw.out.below hb.out.size (fun j hj => by have := hsb.out; have := hsz.out; simp at hj; omega))⟩
          have e := set3_flat (normTo k md) k hlk.out ⟨false, 0, 0⟩
          rw [hat2.out] at e
          have e2 : (⟨md[k].name, ⟨false, 0, 0⟩⟩ : Nm) = md[k].norm := by rw [hnm.out]; unfold Iv.norm; rw [if_neg (by rw [hs'.out]; simp)]
          rw [e2, ← hnx.out] at e
          rw [← e]
          exact hox.out
        case measure => simp [intOf]; omega
    · obtain rfl : k = n2 := by omega
      have y0 := (hZ.out.fact 0 rfl).2
      have y1 := (hZ.out.fact 1 rfl).2
      have y2 := (hZ.out.fact 2 rfl).2
      have y3 := (hZ.out.fact 3 rfl).2
      have y4 := (hZ.out.fact 4 rfl).2
      have y5 := (hZ.out.fact 5 rfl).2
      have f0 := hZ.out.frozen 0
      have f1 := hZ.out.frozen 1
      have f2 := hZ.out.frozen 2
      have f3 := hZ.out.frozen 3
      have f4 := hZ.out.frozen 4
      have f5 := hZ.out.frozen 5
      clear ho0
      go_wp2_with fail
      have hst := writes_store6 wr (sb + 1) (.slice A1 n1 c1) (.bool en) (.bool false) (.int .i64 0) (.int .i64 0) (.slice A3 k c3)
      refine ret_cell1 rfl rfl rfl (hZ.out.store6 (.slice A1 n1 c1) (.bool en) (.bool false) (.int .i64 0) (.int .i64 0) (.slice A3 k c3)) Try.underlying61 Try.sSm ⟨⟨_, rfl, ?_⟩, ?_⟩
      · have h9 := own_above ho.out hst (fun j hj => by have := hsz.out; simp at hj; omega)
        rw [show normTo k md = md.map Nm.norm by rw [← hmd.out]; exact normTo_all md] at h9
        exact own_base h9 (by have := hsz.out; have := hsb.out; have := hB0.out; omega)
      · exact (hb.out.trans (hst.below hb.out.size (fun j hj => by have := hsb.out; simp at hj; omega))).mono hB0.out
end Go.Proofs.Ytimhghmnnibajaa
