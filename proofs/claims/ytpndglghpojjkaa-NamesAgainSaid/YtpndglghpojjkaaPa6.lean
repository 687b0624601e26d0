/-
  27 texts of the proof, in one file: no condition.
-/
import Derived.Test.YtpndglghpojjkaaPa4
import Derived.Test.YtpndglghpojjkaaPa5
import Derived.Lib.Walk
import Derived.Lib.AppendZerosOnto
import Derived.Laws.ResultCell
import Derived.Lib.SlicesCompact
import Derived.Sort.EncStr
import Derived.Shelf.Sort.Plain
import Derived.Ground.Names2Prog
import Derived.Shelf.Slices.Clone
import Derived.Shelf.Slices.CompactS
import Derived.Shelf.Slices.Cells
import Derived.Shelf.Slices.In.SortNone
import Derived.Test.YtpndglghpojjkaaProg
import Derived.Test.YtpndglghpojjkaaPa1
import Derived.Sort.OwnSorted
import Derived.Sort.Grow
import Derived.Lib.OwnBridge
import Derived.RegionTactic
import Derived.ChangeAlike
import Derived.BigRegion
import Derived.Shelf.SlIter.Nil
import Derived.Shelf.SortM.Plain
import Derived.Shelf.SortM.SortNone
import Derived.Ground.GgzProg
import Derived.Ground.SlgmProg
import Derived.Test.YtpndglghpojjkaaPa3
import Derived.Deep.QuietTactic
import Derived.BigQuiet
import Derived.Deep.Slices
/- slices.Grow and slices.Concat over variables; a function's parameters and locals, one behind the other. -/
namespace Go.Proofs.Ytpndglghpojjkaa
open Go.RowKit Go.Deep

set_option maxRecDepth 100000 in
set_option maxHeartbeats 2000000 in
theorem grow0_any (w : World) (n : Nat) (hn : n ≤ 300000) :
  Calls Try.prog 67 #[.slice none 0 0, .int .i64 n] w fun e w' => ∃ v, e = .returned v ∧ w'.ownsRow w.heap.size 59 2 v 0 [] ∧ Below w.heap.size w w' := by
 obtain ⟨iA, hiA, hzA0, hzA1, hzA2⟩ := info_parts Try.clVar
 rcases Nat.eq_zero_or_pos n with rfl | hpos
 ·go_enter Try.func67, Try.ntmps67
  go_wp2_with fail
  go_ret
  exact ⟨_, rfl, World.ownsRow_nil _ _ _ _, Below.refl _ _⟩
 ·have h1 : ¬ ((n : Int) < 0) := by omega
  have h4 : (n : Int) > 0 := by omega
  have hrz : ∀ ty, (Builtin.append_ #[23, 3] ty #[.slice none 0 0, .int .i64 (n : Int)]).run Try.prog w =
    .ok (.slice (some ⟨w.heap.size, 0, none⟩) n (grownCap w n 0 59)) (w.drew.alloc (.cells (#[] ++ Builtin.zeroCells (Value.agg #[.string ⟨#[]⟩, .bool false]).cells n ++ Builtin.zeroCells (Value.agg #[.string ⟨#[]⟩, .bool false]).cells (grownCap w n 0 59 - n)) 59)) := fun ty => by
   have h := Lib.run_append_grow_zeros (P := Try.prog) w 23 3 ty 59 iA _ .i64 .i64 Try.underlying23 Try.underlying3 hiA hzA0 none 0 0 [] (by simpa using run_firstCells_none (P := Try.prog) w.drew iA.size 0 0 0) n (by omega) (by omega) (by omega) (by omega) (by rw [hzA2]; omega) (growslice_fits (by omega) (by rw [hzA2]; omega))
   simpa using h
  have hGn : n ≤ grownCap w n 0 59 := grownCap_ge w _ _ _
  have hGm := grownCap_le_maxLen w n 0 59 (by unfold maxLen; omega)
  obtain ⟨G, hG⟩ : ∃ G, G = grownCap w n 0 59 := ⟨_, rfl⟩
  rw [← hG] at hrz hGn hGm
  have hG63 : G ≤ 9223372036854775807 := by unfold maxLen at hGm; omega
  obtain ⟨cs, hcs⟩ : ∃ y, y = #[] ++ Builtin.zeroCells (Value.agg #[.string ⟨#[]⟩, .bool false]).cells n ++ Builtin.zeroCells (Value.agg #[.string ⟨#[]⟩, .bool false]).cells (G - n) := ⟨_, rfl⟩
  rw [← hcs] at hrz
  have hsz : cs.size = G * 2 := by
   rw [hcs]
   simp only [Array.size_append, size_zeroCells, Array.size_empty]
   have e2 : (Value.agg #[.string ⟨#[]⟩, .bool false]).cells.size = 2 := rfl
   rw [e2]
   omega
  have hown : Hid ((w.drew.alloc (.cells cs 59)).ownsRow w.heap.size 59 2 (.slice (some ⟨w.heap.size, 0, none⟩) 0 G) 0 []) :=
   Lib.hid ⟨by simp, .inr ⟨w.heap.size, G, cs, rfl, Nat.le_refl _, heap_alloc_new w.drew _, Nat.zero_le _, hGm, hsz, by simp⟩⟩
  have hB : Hid (Below w.heap.size w (w.drew.alloc (.cells cs 59))) := Lib.hid ((Below.refl _ w).drew.trans (below_new w.drew _))
  clear hG hcs hsz
  go_enter Try.func67, Try.ntmps67
  go_wp2_with (at_builtin; refine Lib.wpList_append_run _ rfl _ _ _ _ rfl _ _ rfl rfl _ _ (hrz _) ?_)
  go_ret
  exact ⟨_, rfl, hown.out, hB.out⟩
section
variable {P : Program} (w : World)
/-- append onto an owned row of elements of several cells; the source lies anywhere, or is empty. -/
theorem run_append_rowS (base : Nat) (t ty e : TypeId) (i : TypeInfo) (z : Value) (size bytes : Nat) (ht : P.underlying t = some (.slice e)) (hi : P.info? e = some i) (hz : i.zero = some z)
  (hsize : i.size = size) (hby : i.bytes = bytes) (hzs : z.cells.size = size) (hsz : 0 < size)
  (v : Value) (n : Nat) (xs : List Value) (hown : w.ownsRow base e size v n xs)
  (A : Option Addr) (m c : Nat) (news : List Value) (hl : news.length = m * size) (hr : RowS w Evr A news) (h1 : ∀ u ∈ news, u.oneCell' = true)
  (h63 : n + m ≤ maxLen) (hbytes : (n + m) * bytes ≤ 140737488355328) (hbase : base ≤ w.heap.size) :
  ∃ v' w', (Builtin.append_ #[t, t] ty #[v, .slice A m c]).run P w = .ok v' w' ∧ w'.ownsRow base e size v' (n + m) (xs ++ news) ∧ w.grownBy w' v.ownBlock ∧ (v'.ownBlock = v.ownBlock ∨ v'.ownBlock = some w.heap.size) := by
 rcases A with _ | ad
 ·have hn : news = [] := hr.none_
  subst hn
  have hm : m = 0 := by
   rcases Nat.eq_zero_or_pos m with h | h
   ·exact h
   ·have : 0 < m * size := Nat.mul_pos h hsz
    simp at hl
    omega
  subst hm
  exact ⟨v, w, run_append_empty w base t ty e i size ht hi v n xs hown c, by simpa using hown, World.grownBy.refl w _, .inl rfl⟩
 ·obtain ⟨v', w', hrun, h2, h3, _, h5⟩ := run_append_own_at (P := P) w base t ty e i z size bytes ht hi hz hsize hby hzs hsz v n xs hown ad m c news hl (fun j u hu => hr.add j u hu) h1 h63 hbytes hbase
  exact ⟨v', w', hrun, h2, h3, h5⟩
variable {w}
theorem wpList_append_rowS {ops : Array Oper} {rest : List Oper} {o : Oper} {a : Act} {Q : Exit → Act → World → Prop} (hgd : o.guard = none) (s x : Operand) (t : TypeId)
  (ho : o.op = .call { callee := .builtin .append, args := #[s, x], argTypes := #[t, t] })
  (base : Nat) (e : TypeId) (i : TypeInfo) (z : Value) (size bytes : Nat) (ht : P.underlying t = some (.slice e)) (hi : P.info? e = some i) (hz : i.zero = some z)
  (hsize : i.size = size) (hby : i.bytes = bytes) (hzs : z.cells.size = size) (hsz : 0 < size)
  (v : Value) (n : Nat) (xs : List Value) (hs : a.eval s = v) (hown : w.ownsRow base e size v n xs)
  (A : Option Addr) (m c : Nat) (news : List Value) (hx : a.eval x = .slice A m c) (hl : news.length = m * size) (hr : RowS w Evr A news) (h1 : ∀ u ∈ news, u.oneCell' = true)
  (h63 : n + m ≤ maxLen) (hbytes : (n + m) * bytes ≤ 140737488355328) (hbase : base ≤ w.heap.size)
  (h : ∀ v' w', w'.ownsRow base e size v' (n + m) (xs ++ news) → w.grownBy w' v.ownBlock → (v'.ownBlock = v.ownBlock ∨ v'.ownBlock = some w.heap.size) → wpList P ops Q rest (a.put o.dst v') w') : wpList P ops Q (o :: rest) a w := by
 refine wpList_plain hgd fun K hK => ?_
 obtain ⟨v', w', hrun, h2, h3, h4⟩ := run_append_rowS (P := P) w base t o.type e i z size bytes ht hi hz hsize hby hzs hsz v n xs hown A m c news hl hr h1 h63 hbytes hbase
 unfold Oper.wp execOp
 simp only [ho, resolve, invoke, builtin, Sem.run_bind, Sem.run_pure, Result.andThen_ok, List.map_toArray, List.map_cons, List.map_nil, hs, hx, hrun]
 exact hK _ _ (h v' w' h2 h3 h4)
end
/-- Cells of two rows, one behind the other. -/
theorem vr_len (l : List Vr) : (l.flatMap Vr.cells).length = l.length * 2 := by
 induction l with
 | nil => rfl
 | cons v l ih => rw [List.flatMap_cons, List.length_append, ih, List.length_cons]; simp [Vr.cells]; omega
theorem vr_one (l : List Vr) : ∀ u ∈ l.flatMap Vr.cells, u.oneCell' = true := by
 intro u hu
 obtain ⟨v, _, hv⟩ := List.mem_flatMap.1 hu
 simp only [Vr.cells, List.mem_cons, List.not_mem_nil, or_false] at hv
 rcases hv with rfl | rfl <;> rfl
set_option maxRecDepth 100000 in
set_option maxHeartbeats 4000000 in
theorem concat2_any (w : World) (g n1 n2 c1 c2 : Nat) (A1 A2 : Option Addr) (l1 l2 : List Vr) (hH : Holds w g 23 #[.slice A1 n1 c1, .slice A2 n2 c2]) (h1 : l1.length = n1) (h2 : l2.length = n2) (hm1 : n1 ≤ 100000) (hm2 : n2 ≤ 100000)
  (hr1 : RowS w Evr A1 (l1.flatMap Vr.cells)) (hr2 : RowS w Evr A2 (l2.flatMap Vr.cells)) :
  Calls Try.prog 43 #[.slice (some ⟨g, 0, none⟩) 2 2] w fun e w' => ∃ v, e = .returned v ∧ w'.ownsRow w.heap.size 59 2 v (n1 + n2) ((l1 ++ l2).flatMap Vr.cells) ∧ Below w.heap.size w w' := by
 obtain ⟨iA, hiA, hzA0, hzA1, hzA2⟩ := info_parts Try.clVar
 have q0 : w.cell? ⟨g, 0, none⟩ = some (.slice A1 n1 c1) := hH.cell 0
 have q1 : w.cell? ⟨g, 1, none⟩ = some (.slice A2 n2 c2) := hH.cell 1
 have ql := hH.lt
 have hH' := Lib.hid hH
 have hr1' := Lib.hid hr1
 have hr2' := Lib.hid hr2
 have hl1 := Lib.hid (show (l1.flatMap Vr.cells).length = n1 * 2 by rw [vr_len, h1])
 have hl2 := Lib.hid (show (l2.flatMap Vr.cells).length = n2 * 2 by rw [vr_len, h2])
 have hol1 := Lib.hid (vr_one l1)
 have hol2 := Lib.hid (vr_one l2)
 clear hH hr1 hr2 h1 h2
 go_enter Try.func43, Try.ntmps43
 go_wp2_with fail
 go_loopw [3, 11] (fun sz i wl => ((i = .int .i64 0 ∧ sz = .int .i64 0) ∨ (i = .int .i64 1 ∧ sz = .int .i64 n1) ∨ (i = .int .i64 2 ∧ sz = .int .i64 ((n1 : Int) + (n2 : Int)))) ∧ Hid (wl = w)) (fun _ i _ => 2 - (intOf i).toNat)
 case atStart => exact ⟨.inl ⟨rfl, rfl⟩, Lib.hid rfl⟩
 obtain ⟨hk, hwl⟩ := hrel
 rename World => wl
 rw [hwl.out]
 clear hwl wl
 rcases hk with ⟨rfl, rfl⟩ | ⟨rfl, rfl⟩ | ⟨rfl, rfl⟩
 ·go_wp2_with fail
  exact ⟨⟨.inr (.inl ⟨rfl, by simp⟩), Lib.hid trivial⟩, by simp [intOf]⟩
 ·have hs0 : ¬ ((n1 : Int) + (n2 : Int) < 0) := by omega
  go_wp2_with fail
  exact ⟨⟨.inr (.inr ⟨rfl, rfl⟩), Lib.hid trivial⟩, by simp [intOf]⟩
 ·go_wp2_with fail
  have hcast : ((n1 : Int) + (n2 : Int)) = ((n1 + n2 : Nat) : Int) := by omega
  rw [hcast]
  refine (grow0_any w (n1 + n2) (by omega)).mono ?_
  rintro e w2 ⟨v0, rfl, hO, hB⟩
  have hO' := Lib.hid hO
  have hB' := Lib.hid hB
  clear hO hB hcast
  have q0' := Lib.hid q0
  have q1' := Lib.hid q1
  go_wp2_with fail
  go_loopw [6, 27] (fun v i wl => ((i = .int .i64 0 ∧ Hid (wl.ownsRow w.heap.size 59 2 v 0 [])) ∨ (i = .int .i64 1 ∧ Hid (wl.ownsRow w.heap.size 59 2 v n1 (l1.flatMap Vr.cells))) ∨ (i = .int .i64 2 ∧ Hid (wl.ownsRow w.heap.size 59 2 v (n1 + n2) ((l1 ++ l2).flatMap Vr.cells)))) ∧ Hid (Below w.heap.size w wl)) (fun _ i _ => 2 - (intOf i).toNat)
  case atStart => exact ⟨.inl ⟨rfl, hO'⟩, hB'⟩
  clear hO' hB' q0 q1
  obtain ⟨hk, hb0⟩ := hrel
  rename World => wl
  rcases hk with ⟨rfl, hv⟩ | ⟨rfl, hv⟩ | ⟨rfl, hv⟩
  ·have hO := hv
   obtain ⟨vA, vc, hvs, -, -⟩ := RowS.own (S := fun _ => True) hO.out (fun _ _ => trivial)
   subst hvs
   have q0 := (hb0.out.cell (p := ⟨g, 0, none⟩) ql).trans q0'.out
   have q1 := (hb0.out.cell (p := ⟨g, 1, none⟩) ql).trans q1'.out
   have hbs := Lib.hid hb0.out.size
   have hrw := Lib.hid (hr1'.out.up hb0.out)
   go_wp2_with
    (at_builtin
     go_loud (refine wpList_append_rowS rfl (.tmp 31) (.tmp 32) 23 rfl w.heap.size 59 iA _ 2 24 rfl hiA hzA0 hzA1 hzA2 rfl (by omega) (.slice vA 0 vc) 0 [] rfl hO.out A1 n1 c1 (l1.flatMap Vr.cells) rfl hl1.out hrw.out hol1.out (by unfold maxLen; omega) (by omega) hbs.out ?_)
     intro v4 w4 ho4 hg4 _
     have hO4 := Lib.hid ho4
     have hB4 := Lib.hid (hb0.out.trans ((Writes.of_grown hg4 (M := [(Value.slice vA 0 vc).ownBlock]) (by simp)).below hbs.out (fun j hj => ownK_ge hO.out (List.mem_singleton.1 hj).symm)))
     clear ho4 hg4)
   exact ⟨⟨.inr (.inl ⟨rfl, Lib.hid (by have := hO4.out; rw [Nat.zero_add, List.nil_append] at this; exact this)⟩), hB4⟩, by simp [intOf]⟩
  ·have hO := hv
   obtain ⟨vA, vc, hvs, -, -⟩ := RowS.own (S := fun _ => True) hO.out (fun _ _ => trivial)
   subst hvs
   have q0 := (hb0.out.cell (p := ⟨g, 0, none⟩) ql).trans q0'.out
   have q1 := (hb0.out.cell (p := ⟨g, 1, none⟩) ql).trans q1'.out
   have hbs := Lib.hid hb0.out.size
   have hrw := Lib.hid (hr2'.out.up hb0.out)
   go_wp2_with
    (at_builtin
     go_loud (refine wpList_append_rowS rfl (.tmp 31) (.tmp 32) 23 rfl w.heap.size 59 iA _ 2 24 rfl hiA hzA0 hzA1 hzA2 rfl (by omega) (.slice vA n1 vc) n1 (l1.flatMap Vr.cells) rfl hO.out A2 n2 c2 (l2.flatMap Vr.cells) rfl hl2.out hrw.out hol2.out (by unfold maxLen; omega) (by omega) hbs.out ?_)
     intro v4 w4 ho4 hg4 _
     have hO4 := Lib.hid ho4
     have hB4 := Lib.hid (hb0.out.trans ((Writes.of_grown hg4 (M := [(Value.slice vA n1 vc).ownBlock]) (by simp)).below hbs.out (fun j hj => ownK_ge hO.out (List.mem_singleton.1 hj).symm)))
     clear ho4 hg4)
   exact ⟨⟨.inr (.inr ⟨rfl, Lib.hid (by have := hO4.out; rw [← List.flatMap_append] at this; exact this)⟩), hB4⟩, by simp [intOf]⟩
  ·have hO := hv
   go_wp2_with fail
   go_ret
   exact ⟨_, rfl, hO.out, hb0.out⟩
end Go.Proofs.Ytpndglghpojjkaa
/- Package names: declared, visitorOf: what a function's names are. -/
namespace Go.Proofs.Ytpndglghpojjkaa
open Go.RowKit Go.Deep

/-- What a name is among variables, where the last of a name counts. -/
def kindV (l : List Vr) (x : List UInt8) : Nat := kindL l.reverse x
theorem kindV_snoc (l : List Vr) (v : Vr) (x : List UInt8) : kindV (l ++ [v]) x = if v.nm == x then (if v.ptr then 2 else 1) else kindV l x := by
 unfold kindV
 rw [List.reverse_append, List.reverse_singleton, List.singleton_append]
 rfl
theorem strV_eq {k : ByteArray} {x : List UInt8} : k = strV x ↔ k.data.toList = x := by
 constructor
 ·intro h; rw [h]; simp [strV]
 ·intro h
  subst h
  cases k
  simp [strV]
theorem kF_snoc (l : List Vr) (v : Vr) : (fun j => if j = strV v.nm then some (Value.int .i64 ((if v.ptr then 2 else 1 : Nat) : Int)) else kF (kindV l) j) = kF (kindV (l ++ [v])) := by
 funext j
 unfold kF
 rw [kindV_snoc]
 by_cases h : j = strV v.nm
 ·have h2 := strV_eq.1 h
  rw [if_pos h, h2]
  have e : (v.nm == v.nm) = true := by simp
  rw [e, if_pos rfl]
  cases v.ptr <;> rfl
 ·rw [if_neg h]
  have h2 : ¬ j.data.toList = v.nm := fun e => h (strV_eq.2 e)
  have e : (v.nm == j.data.toList) = false := by
   rw [beq_eq_false_iff_ne]
   exact fun e => h2 e.symm
  simp only [e, Bool.false_eq_true, if_false]
/-- The end of a function whose result is a struct in memory. -/
theorem ret_cellN {fn : Func} {p : Tmp} {ty : TypeId} {R : Ending → World → Prop} {a : Act} {w : World} {g : Nat} {t : TypeId} {cs : Array Value} {fs : Array Field} (h : fn.results = #[.cell p ty]) (hd0 : a.defers = []) (hp : a.tmps.getD p undef = .pointer (some ⟨g, 0, none⟩))
  (hg : Holds w g t cs) (hu : Try.prog.underlying ty = some (.struct fs)) (hi : (Try.prog.info? ty).map (·.size) = some cs.size)
  (hR : R (.returned (.agg cs)) w) : bodyPost Try.prog fn R .ret a w := by
 refine bodyPost_ret_by (v := .agg cs) ?_ hd0 hR
 have hp' : a.tmps[p]?.getD undef = .pointer (some ⟨g, 0, none⟩) := by simpa [Array.getD_eq_getD_getElem?] using hp
 simp [results, h, hp', asAddr, run_loadVar_row w g t ty cs (0, 0) _ hg hu rfl hi]
/-- A function as a value, its slices written out. -/
def fnC (nm : List UInt8) (A1 A2 A3 : Option Addr) (n1 c1 n2 c2 n3 c3 : Nat) : Array Value := #[.string (strV nm), .slice A1 n1 c1, .slice A2 n2 c2, .slice A3 n3 c3]
set_option maxRecDepth 100000 in
theorem declared_any (w : World) (nm : List UInt8) (ps ls : List Vr) (A1 A2 A3 : Option Addr) (c1 c2 n3 c3 : Nat) (h1 : VrAt w Evr ps (.slice A1 ps.length c1)) (h2 : VrAt w Evr ls (.slice A2 ls.length c2)) :
  Calls Try.prog 21 #[.agg (fnC nm A1 A2 A3 ps.length c1 ls.length c2 n3 c3)] w fun e w' => ∃ v, e = .returned v ∧ w'.ownsRow w.heap.size 59 2 v (ps.length + ls.length) ((ps ++ ls).flatMap Vr.cells) ∧ Below w.heap.size w w' := by
 obtain ⟨A1', c1', e1, a1, a2, a3, a4⟩ := h1
 injection e1 with e1 e1' e1''
 subst e1 e1''
 obtain ⟨A2', c2', e2, b1, b2, b3, b4⟩ := h2
 injection e2 with e2 e2' e2''
 subst e2 e2''
 obtain ⟨n1, hn1⟩ : ∃ y, y = ps.length := ⟨_, rfl⟩
 obtain ⟨n2, hn2⟩ : ∃ y, y = ls.length := ⟨_, rfl⟩
 rw [← hn1, ← hn2]
 rw [← hn1] at a1
 rw [← hn2] at b1
 have ha := below_new w (.cells (fnC nm A1 A2 A3 n1 c1 n2 c2 n3 c3) 26)
 obtain ⟨w1, hw1⟩ : ∃ y, y = w.alloc (.cells (fnC nm A1 A2 A3 n1 c1 n2 c2 n3 c3) 26) := ⟨_, rfl⟩
 rw [← hw1] at ha
 have hb := below_new w1 (.cells #[.slice A1 n1 c1, .slice A2 n2 c2] 23)
 obtain ⟨w2, hw2⟩ : ∃ y, y = w1.alloc (.cells #[.slice A1 n1 c1, .slice A2 n2 c2] 23) := ⟨_, rfl⟩
 rw [← hw2] at hb
 have hH : Holds w2 (w.heap.size + 1) 23 #[.slice A1 n1 c1, .slice A2 n2 c2] := by
  have := Holds.new w1 23 #[.slice A1 n1 c1, .slice A2 n2 c2]
  rw [← hw2] at this
  rw [show w.heap.size + 1 = w1.heap.size by rw [hw1]; simp]
  exact this
 have hB : Below w.heap.size w w2 := ha.trans (hb.mono ha.size)
 have hcc := Lib.hid (concat2_any w2 (w.heap.size + 1) n1 n2 c1 c2 A1 A2 ps ls hH hn1.symm hn2.symm a1 b1 (a3.keep fun x hx _ => hB.block x hx) (b3.keep fun x hx _ => hB.block x hx))
 have hfold : Hid ((w.alloc (.cells (fnC nm A1 A2 A3 n1 c1 n2 c2 n3 c3) 26)).alloc (.cells #[.slice A1 n1 c1, .slice A2 n2 c2] 23) = w2) := Lib.hid (by rw [hw2, hw1])
 have hB' := Lib.hid hB
 unfold fnC at hfold
 clear ha hw1 hb hw2 hH hB a3 b3 a4 b4 hn1 hn2
 unfold fnC
 go_enter Try.func21, Try.ntmps21
 go_wp2_with fail
 rw [hfold.out]
 refine hcc.out.mono ?_
 rintro e w3 ⟨v, rfl, ho, hb⟩
 obtain ⟨vA, vc, rfl, -, -⟩ := RowS.own (S := fun _ => True) ho (fun _ _ => trivial)
 have ho' := Lib.hid (own_base ho hB'.out.size)
 have hb' := Lib.hid (hB'.out.trans (hb.mono hB'.out.size))
 clear ho hb
 go_wp2_with fail
 go_ret
 exact ⟨_, rfl, ho'.out, hb'.out⟩
theorem flatMap_vr : ∀ (l : List Vr) {i : Nat} (hi : i < l.length) (r : Nat) (v : Value), (Vr.cells l[i])[r]? = some v → (l.flatMap Vr.cells)[i * 2 + r]? = some v
 | [], i, hi, _, _, _ => absurd hi (by simp)
 | a :: l, i, hi, r, v, h => by
  rw [List.flatMap_cons]
  cases i with
  | zero =>
   have hr : r < (Vr.cells a).length := (List.getElem?_eq_some_iff.1 h).1
   rw [Nat.zero_mul, Nat.zero_add, List.getElem?_append_left hr]
   exact h
  | succ i =>
   have e : (Vr.cells a).length = 2 := rfl
   rw [List.getElem?_append_right (by rw [e]; omega), e]
   have := flatMap_vr l (i := i) (by simpa using hi) r v (by simpa using h)
   rw [← this]
   congr 1
   omega
/-- The loop of visitorOf: the row, the map. -/
structure VoL (A : Option Addr) (m gk gr : Nat) (l : List Vr) (k : Nat) (w0 w : World) : Prop where
 row : RowS w (fun x => x ≠ m) A (l.flatMap Vr.cells)
 km : SMap w m k (kF (kindV (l.take k)))
 hk : Holds w gk 63 #[.map (some m)]
 hr : Holds w gr 63 #[.map none]
 bl : Below w0.heap.size w0 w
 m0 : w0.heap.size ≤ m
 gm : gk ≠ m
 rm : gr ≠ m
 rk : gr ≠ gk
 r0 : w0.heap.size ≤ gr
theorem VoL.below {A : Option Addr} {m gk gr k : Nat} {l : List Vr} {w0 w w' : World} (h : VoL A m gk gr l k w0 w) (hb : Below w.heap.size w w') : VoL A m gk gr l k w0 w' :=
 ⟨h.row.keep fun x hx _ => hb.block x hx, h.km.loc (hb.block m h.km.lt), h.hk.below hb h.hk.lt, h.hr.below hb h.hr.lt, h.bl.trans (hb.mono h.bl.size), h.m0, h.gm, h.rm, h.rk, h.r0⟩
theorem VoL.step {A : Option Addr} {m gk gr k : Nat} {l : List Vr} {w0 w : World} (h : VoL A m gk gr l k w0 w) (hk : k < l.length) (hN : k ≤ 1000000) (hx : l[k].nm.length ≤ 4096) :
  ∃ w', (Instr.mapUpdate 61 (.map (some m)) (.string (strV l[k].nm)) (.int .i64 ((if l[k].ptr then 2 else 1 : Nat) : Int))).run Try.prog w = .ok () w' ∧ VoL A m gk gr l (k + 1) w0 w' := by
 obtain ⟨w', hr, hm, hg, hs⟩ := h.km.store Try.underlying61 (k := strV l[k].nm) (by simp [strV, ByteArray.size, maxLen]; omega) hN (.int .i64 ((if l[k].ptr then 2 else 1 : Nat) : Int))
 have hW : Writes [some m] w w' := Writes.of_grown hg (by simp)
 refine ⟨w', hr, h.row.keep fun x hx hS => hW.block x hx (by simp; exact hS), ?_, hW.holds h.hk (by simp; exact h.gm), hW.holds h.hr (by simp; exact h.rm), h.bl.trans (hW.below h.bl.size fun j hj => by simp at hj; subst hj; exact h.m0), h.m0, h.gm, h.rm, h.rk, h.r0⟩
 rw [kF_snoc] at hm
 rw [List.take_add_one, List.getElem?_eq_getElem hk]
 exact hm
theorem VoL.at_ {A : Option Addr} {m gk gr k : Nat} {l : List Vr} {w0 w : World} (h : VoL A m gk gr l k w0 w) {i : Nat} (hi : i < l.length) : ∃ b off, A = some ⟨b, off, none⟩ ∧ w.cell? ⟨b, off + i * 2, none⟩ = some (.string (strV l[i].nm)) ∧ w.cell? ⟨b, off + i * 2 + 1, none⟩ = some (.bool l[i].ptr) := by
 have hne : l.flatMap Vr.cells ≠ [] := fun e => by
  have := vr_len l
  rw [e] at this
  simp at this
  omega
 obtain ⟨b, off, e, -, hc⟩ := h.row hne
 refine ⟨b, off, e, hc _ _ (flatMap_vr l hi 0 _ rfl), ?_⟩
 rw [Nat.add_assoc]
 exact hc _ _ (flatMap_vr l hi 1 _ rfl)
set_option maxRecDepth 100000 in
set_option maxHeartbeats 2000000 in
theorem visitorOf_any (w : World) (nm : List UInt8) (ps ls : List Vr) (A1 A2 A3 : Option Addr) (c1 c2 n3 c3 : Nat) (h1 : VrAt w Evr ps (.slice A1 ps.length c1)) (h2 : VrAt w Evr ls (.slice A2 ls.length c2)) :
  Calls Try.prog 23 #[.agg (fnC nm A1 A2 A3 ps.length c1 ls.length c2 n3 c3)] w fun e w' => ∃ m, e = .returned (.agg #[.map (some m)]) ∧ w.heap.size ≤ m ∧ KMap w' m (kindV (ps ++ ls)) ∧ Below w.heap.size w w' := by
 have hnm : ∀ v ∈ ps ++ ls, v.nm.length ≤ 4096 := by
  obtain ⟨_, _, _, _, _, _, a4⟩ := h1
  obtain ⟨_, _, _, _, _, _, b4⟩ := h2
  intro v hv
  rcases List.mem_append.1 hv with hv | hv
  ·exact a4 v hv
  ·exact b4 v hv
 have hlen : ps.length ≤ 100000 ∧ ls.length ≤ 100000 := by
  obtain ⟨_, _, _, a1, _⟩ := h1
  obtain ⟨_, _, _, b1, _⟩ := h2
  exact ⟨a1, b1⟩
 have hnm' := Lib.hid hnm
 have h1' := Lib.hid h1
 have h2' := Lib.hid h2
 clear h1 h2 hnm
 have hdec := Lib.hid (fun (w : World) (h1 : VrAt w Evr ps (.slice A1 ps.length c1)) (h2 : VrAt w Evr ls (.slice A2 ls.length c2)) => declared_any w nm ps ls A1 A2 A3 c1 c2 n3 c3 h1 h2)
 unfold fnC at hdec
 obtain ⟨n1, hn1⟩ : ∃ y, y = ps.length := ⟨_, rfl⟩
 obtain ⟨n2, hn2⟩ : ∃ y, y = ls.length := ⟨_, rfl⟩
 rw [← hn1, ← hn2] at hdec
 rw [← hn1] at h1'
 rw [← hn2] at h2'
 rw [← hn1, ← hn2] at hlen
 rw [← hn1, ← hn2]
 have hn1' := Lib.hid hn1
 have hn2' := Lib.hid hn2
 clear hn1 hn2
 have hmm := @run_makeMap Try.prog
 unfold fnC
 go_enter Try.func23, Try.ntmps23
 go_wp2_with fail
 obtain ⟨wd, hwd⟩ : ∃ x, x = (((w.alloc (.cells #[.string (strV nm), .slice A1 n1 c1, .slice A2 n2 c2, .slice A3 n3 c3] 26)).alloc (.cells #[.map none] 63)).alloc (.map #[] 0)).alloc (.cells #[.map (some (w.heap.size + 1 + 1))] 63) := ⟨_, rfl⟩
 have hB0 : Below w.heap.size w wd := by
  rw [hwd]
  exact ((((Below.refl _ _).alloc (Nat.le_refl _) _).alloc (by simp) _).alloc (by simp; omega) _).alloc (by simp; omega) _
 have hKm : SMap wd (w.heap.size + 1 + 1) 0 (kF (kindV ((ps ++ ls).take 0))) := by
  have e : kF (kindV ((ps ++ ls).take 0)) = fun _ => none := by
   funext j
   rfl
  rw [e, hwd]
  have h0 := SMap.made ((w.alloc (.cells #[.string (strV nm), .slice A1 n1 c1, .slice A2 n2 c2, .slice A3 n3 c3] 26)).alloc (.cells #[.map none] 63))
  have h1 := h0.loc ((below_new _ (.cells #[.map (some (w.heap.size + 1 + 1))] 63)).block _ h0.lt)
  simpa using h1
 have hHk : Holds wd (w.heap.size + 1 + 1 + 1) 63 #[.map (some (w.heap.size + 1 + 1))] := by
  rw [hwd]
  have := Holds.new (((w.alloc (.cells #[.string (strV nm), .slice A1 n1 c1, .slice A2 n2 c2, .slice A3 n3 c3] 26)).alloc (.cells #[.map none] 63)).alloc (.map #[] 0)) 63 #[.map (some (w.heap.size + 1 + 1))]
  simpa using this
 have hHr : Holds wd (w.heap.size + 1) 63 #[.map none] := by
  rw [hwd]
  have h0 := ((Holds.new (w.alloc (.cells #[.string (strV nm), .slice A1 n1 c1, .slice A2 n2 c2, .slice A3 n3 c3] 26)) 63 #[.map none]).alloc (.map #[] 0)).alloc (.cells #[.map (some (w.heap.size + 1 + 1))] 63)
  simpa using h0
 have hcd := hdec.out wd (h1'.out.keep fun x hx _ => hB0.block x hx) (h2'.out.keep fun x hx _ => hB0.block x hx)
 obtain ⟨m, hm⟩ : ∃ x, x = w.heap.size + 1 + 1 := ⟨_, rfl⟩
 obtain ⟨gk, hgk⟩ : ∃ x, x = w.heap.size + 1 + 1 + 1 := ⟨_, rfl⟩
 obtain ⟨gr, hgr⟩ : ∃ x, x = w.heap.size + 1 := ⟨_, rfl⟩
 rw [← hwd]
 rw [← hm] at hKm hHk hgk
 rw [← hgk] at hHk
 rw [← hgr] at hHr hm
 have hmr : m = gr + 1 := hm
 have hkr : gk = m + 1 := hgk
 have hgr2 : gr = w.heap.size + 1 := hgr
 have hgrH := Lib.hid hgr
 have hmH := Lib.hid hm
 have hgkH := Lib.hid hgk
 rw [show w.heap.size + 1 + 1 + 1 = gk by omega, show w.heap.size + 1 + 1 = m by omega, show w.heap.size + 1 = gr by omega]
 clear hwd hgr hm hgk
 refine hcd.mono ?_
 rintro e w2 ⟨v, rfl, ho, hb⟩
 obtain ⟨N, hN⟩ : ∃ y, y = n1 + n2 := ⟨_, rfl⟩
 rw [← hN] at ho
 obtain ⟨vA, vc, rfl, hrow, hvc⟩ := RowS.own (S := fun x => x ≠ m) ho (fun g hg => by
  have := ownK_ge ho hg
  have := hKm.lt
  omega)
 have hV0 : Hid (VoL vA m gk gr (ps ++ ls) 0 w w2) := Lib.hid ⟨hrow, hKm.loc (hb.block m hKm.lt), hHk.below hb hHk.lt, hHr.below hb hHr.lt, hB0.trans (hb.mono hB0.size), by omega, by omega, by omega, by omega, by omega⟩
 have hln : Hid ((ps ++ ls).length = N) := Lib.hid (by rw [List.length_append, ← hn1'.out, ← hn2'.out, hN])
 have hN6 : N ≤ 200000 := by omega
 clear ho hb hrow hKm hHk hHr hB0 hcd hmr hkr hgr2 hN
 go_wp2_with fail
 go_loopw [11] (fun i wl => ∃ k : Nat, k ≤ N ∧ i = .int .i64 k ∧ Hid (VoL vA m gk gr (ps ++ ls) k w wl)) (fun i _ => N - (intOf i).toNat)
 case atStart => exact ⟨0, by omega, rfl, hV0⟩
 clear hV0
 obtain ⟨k, hk, rfl, hV⟩ := hrel
 rename World => wl
 by_cases hlt : k < N
 ·have hlt2 : k < (ps ++ ls).length := by rw [hln.out]; exact hlt
  obtain ⟨b, off, rfl, q0, q1⟩ := hV.out.at_ hlt2
  have hV1 := hV.out.below (below_new wl (.cells #[.string (strV (ps ++ ls)[k].nm), .bool (ps ++ ls)[k].ptr] 59))
  obtain ⟨w2, hrun, hV2⟩ := hV1.step hlt2 (by omega) (hnm'.out _ (List.getElem_mem _))
  have c0 : wl.cell? ⟨gk, 0, none⟩ = some (.map (some m)) := hV.out.hk.cell 0
  have cl := hV.out.hk.lt
  have hV3 := Lib.hid hV2
  clear hV hV1 hV2
  generalize (ps ++ ls)[k] = x at q0 q1 hrun
  obtain ⟨nx, px⟩ := x
  simp only at q0 q1 hrun
  cases px
  ·simp only [Bool.false_eq_true, if_false] at hrun
   replace hrun : (Instr.mapUpdate 61 (.map (some m)) (.string (strV nx)) (.int .i64 1)).run Try.prog (wl.alloc (.cells #[.string (strV nx), .bool false] 59)) = .ok () w2 := hrun
   go_wp2_with fail
   exact ⟨⟨k + 1, by omega, by simp, hV3⟩, by simp [intOf]; omega⟩
  ·simp only [if_true] at hrun
   replace hrun : (Instr.mapUpdate 61 (.map (some m)) (.string (strV nx)) (.int .i64 2)).run Try.prog (wl.alloc (.cells #[.string (strV nx), .bool true] 59)) = .ok () w2 := hrun
   go_wp2_with fail
   exact ⟨⟨k + 1, by omega, by simp, hV3⟩, by simp [intOf]; omega⟩
 ·obtain rfl : k = N := by omega
  have c0 : wl.cell? ⟨gk, 0, none⟩ = some (.map (some m)) := hV.out.hk.cell 0
  have cl := hV.out.hk.lt
  have r0 : wl.cell? ⟨gr, 0, none⟩ = some (.map none) := hV.out.hr.cell 0
  have rz := hV.out.hr.frozen 0
  have rl := hV.out.hr.lt
  have hst := Writes.store wl (M := [some gr]) (p := ⟨gr, 0, none⟩) (by simp) (.map (some m))
  have hHr : Holds (wl.setCell ⟨gr, 0, none⟩ (.map (some m))) gr 63 #[.map (some m)] := by
   have := hV.out.hr.store 0 (.map (some m))
   simpa using this
  have hfin : Hid (w.heap.size ≤ m ∧ KMap (wl.setCell ⟨gr, 0, none⟩ (.map (some m))) m (kindV (ps ++ ls)) ∧ Below w.heap.size w (wl.setCell ⟨gr, 0, none⟩ (.map (some m)))) := Lib.hid (by
   refine ⟨hV.out.m0, ?_, hV.out.bl.trans (hst.below hV.out.bl.size fun j hj => by simp at hj; subst hj; exact hV.out.r0)⟩
   have h1 := hV.out.km
   rw [List.take_of_length_le (by rw [hln.out]; omega)] at h1
   exact (h1.loc (hst.block m h1.lt (by simp; exact fun e => hV.out.rm e.symm))).more (by omega))
  have hHr2 := Lib.hid hHr
  clear hV hst hHr
  go_wp2_with fail
  exact ret_cellN rfl rfl rfl hHr2.out Try.underlying63 (by kernel_rfl) ⟨m, rfl, hfin.out⟩
end Go.Proofs.Ytpndglghpojjkaa
/- Plain laws of strings sorted, each once. No program in sight. -/
namespace Go.Proofs.Ytpndglghpojjkaa

abbrev S := List UInt8
instance : Inhabited S := ⟨[]⟩
theorem lt_of_le_ne {x y : S} (h : x ≤ y) (hne : x ≠ y) : x < y := by
 rcases Classical.em (x < y) with h1 | h1
 ·exact h1
 ·exact absurd (List.le_antisymm h (show y ≤ x from h1)) hne
theorem lt_of_le_lt {x y z : S} (h : x ≤ y) (h2 : y < z) : x < z := by
 rcases Classical.em (x < z) with h1 | h1
 ·exact h1
 ·exact absurd h2 (fun h3 => absurd (List.le_trans (show z ≤ x from h1) h) (fun h4 => h4 h3))

/-- Rising, each once. -/
def Up (l : List S) : Prop := l.Pairwise (· < ·)
theorem Up.ext : ∀ {l l' : List S}, Up l → Up l' → (∀ x, x ∈ l ↔ x ∈ l') → l = l'
 | [], [], _, _, _ => rfl
 | [], y :: l', _, _, h => by have := (h y).2 (List.mem_cons_self ..); cases this
 | x :: l, [], _, _, h => by have := (h x).1 (List.mem_cons_self ..); cases this
 | x :: l, y :: l', hu, hu', h => by
  obtain ⟨h1, h2⟩ := List.pairwise_cons.1 hu
  obtain ⟨h3, h4⟩ := List.pairwise_cons.1 hu'
  have e : x = y := by
   rcases List.mem_cons.1 ((h x).1 (List.mem_cons_self ..)) with e | e
   ·exact e
   ·rcases List.mem_cons.1 ((h y).2 (List.mem_cons_self ..)) with e' | e'
    ·exact e'.symm
    ·exact absurd (List.lt_trans (h1 y e') (h3 x e)) (List.lt_irrefl x)
  subst e
  congr 1
  refine Up.ext h2 h4 fun z => ⟨fun hz => ?_, fun hz => ?_⟩
  ·rcases List.mem_cons.1 ((h z).1 (List.mem_cons_of_mem _ hz)) with e | e
   ·subst e; exact absurd (h1 z hz) (List.lt_irrefl z)
   ·exact e
  ·rcases List.mem_cons.1 ((h z).2 (List.mem_cons_of_mem _ hz)) with e | e
   ·subst e; exact absurd (h3 z hz) (List.lt_irrefl z)
   ·exact e

section
open Go.Lib
theorem compact_up {zs : List S} (h : zs.Pairwise (· ≤ ·)) : Up (compact zs) := by
 unfold compact compactUpTo Up
 rw [List.pairwise_map]
 refine (List.Pairwise.filter _ (List.pairwise_lt_range (n := zs.length))).imp_of_mem fun {i j} hi hj hij => ?_
 have hj' := List.mem_filter.1 hj
 have hjl := List.mem_range.1 hj'.1
 have hk := hj'.2
 unfold keeps at hk
 simp only [decide_eq_true_eq] at hk
 have hne := hk.resolve_left (by omega)
 have hg : ∀ k (hk : k < zs.length), zs.toArray[k]! = zs[k] := fun k hk => by simp [hk]
 rw [hg j hjl, hg (j - 1) (by omega)] at hne
 rw [hg i (by omega), hg j hjl]
 have h1 : zs[j - 1] < zs[j] := lt_of_le_ne (List.pairwise_iff_getElem.1 h (j - 1) j (by omega) hjl (by omega)) (fun e => hne e.symm)
 rcases Nat.lt_or_ge i (j - 1) with h2 | h2
 ·exact lt_of_le_lt (List.pairwise_iff_getElem.1 h i (j - 1) (by omega) (by omega) h2) h1
 ·have : i = j - 1 := by omega
  subst this
  exact h1
theorem mem_compact {zs : List S} {x : S} : x ∈ compact zs ↔ x ∈ zs := by
 have hg : ∀ k (hk : k < zs.length), zs.toArray[k]! = zs[k] := fun k hk => by simp [hk]
 unfold compact compactUpTo
 rw [List.mem_map]
 constructor
 ·rintro ⟨j, hj, rfl⟩
  have := List.mem_range.1 (List.mem_filter.1 hj).1
  rw [hg j this]
  exact List.getElem_mem _
 ·intro hx
  have hex : ∃ k, k < zs.length ∧ zs.toArray[k]! = x := by
   obtain ⟨k, hk, e⟩ := List.getElem_of_mem hx
   exact ⟨k, hk, by rw [hg k hk, e]⟩
  have hmin : ∀ n k, k < n → k < zs.length → zs.toArray[k]! = x → ∃ j, j < zs.length ∧ zs.toArray[j]! = x ∧ keeps zs.toArray j = true := by
   intro n
   induction n with
   | zero => intro k h; omega
   | succ n ih =>
    intro k hkn hk e
    by_cases h0 : keeps zs.toArray k = true
    ·exact ⟨k, hk, e, h0⟩
    ·unfold keeps at h0
     simp only [decide_eq_true_eq, not_or, Classical.not_not] at h0
     exact ih (k - 1) (by omega) (by omega) (by rw [← h0.2]; exact e)
  obtain ⟨k, hk, e⟩ := hex
  obtain ⟨j, h1, h2, h3⟩ := hmin (k + 1) k (by omega) hk e
  exact ⟨j, List.mem_filter.2 ⟨List.mem_range.2 h1, h3⟩, h2⟩
/-- All of a list, rising, each once. -/
def canon (l : List S) : List S := compact (l.mergeSort fun x y => decide (x ≤ y))
theorem sorted_merge (l : List S) : (l.mergeSort fun x y => decide (x ≤ y)).Pairwise (· ≤ ·) := by
 have := List.pairwise_mergeSort (le := fun x y : S => decide (x ≤ y)) (fun a b c h1 h2 => by simp only [decide_eq_true_eq] at *; exact List.le_trans h1 h2) (fun a b => by simp only [Bool.or_eq_true, decide_eq_true_eq]; exact List.le_total a b) l
 exact this.imp fun h => by simpa using h
theorem canon_up (l : List S) : Up (canon l) := compact_up (sorted_merge l)
theorem mem_canon {l : List S} {x : S} : x ∈ canon l ↔ x ∈ l := mem_compact.trans (List.mergeSort_perm l _).mem_iff
theorem canon_of {l l' : List S} (hu : Up l') (h : ∀ x, x ∈ l ↔ x ∈ l') : canon l = l' := (canon_up l).ext hu fun x => by rw [mem_canon]; exact h x
theorem canon_len (l : List S) : (canon l).length ≤ l.length := by
 unfold canon
 refine Nat.le_trans ?_ (Nat.le_of_eq (List.length_mergeSort (le := fun x y : S => decide (x ≤ y)) l))
 unfold compact compactUpTo
 rw [List.length_map]
 refine Nat.le_trans (List.length_filter_le _ _) ?_
 simp
end
end Go.Proofs.Ytpndglghpojjkaa
/- Strings that stand once each, plainly. No program in sight. -/
namespace Go.Proofs.Ytpndglghpojjkaa
open Go.Lib

/-- Does a string occur twice? -/
def dupB : List S → Bool
 | [] => false
 | x :: l => l.contains x || dupB l
theorem dupB_nodup : ∀ (l : List S), dupB l = false ↔ l.Nodup
 | [] => by simp [dupB]
 | x :: l => by
  unfold dupB
  rw [Bool.or_eq_false_iff, List.nodup_cons, dupB_nodup l]
  simp
theorem filter_full {α : Type} {p : α → Bool} : ∀ {l : List α}, (l.filter p).length = l.length → ∀ x ∈ l, p x = true
 | [], _ => by simp
 | a :: l, h => by
  have hle := List.length_filter_le p l
  by_cases ha : p a = true
  ·rw [List.filter_cons_of_pos ha, List.length_cons, List.length_cons] at h
   intro x hx
   rcases List.mem_cons.1 hx with rfl | hx
   ·exact ha
   ·exact filter_full (by omega) x hx
  ·rw [List.filter_cons_of_neg ha, List.length_cons] at h
   omega
theorem canon_full {l : List S} (h : (canon l).length = l.length) : l.Nodup := by
 have hs := List.mergeSort_perm l (fun x y => decide (x ≤ y))
 have hu := canon_up l
 unfold canon at h hu
 have e : compact (l.mergeSort fun x y => decide (x ≤ y)) = l.mergeSort fun x y => decide (x ≤ y) := by
  refine compact_all _ fun j hj => ?_
  have hl := List.length_mergeSort (le := fun x y : S => decide (x ≤ y)) l
  have h3 : (compact (l.mergeSort fun x y => decide (x ≤ y))).length = ((List.range (l.mergeSort fun x y => decide (x ≤ y)).length).filter (keeps (l.mergeSort fun x y => decide (x ≤ y)).toArray)).length := by
   unfold compact compactUpTo
   rw [List.length_map]
  have h2 : ((List.range (l.mergeSort fun x y => decide (x ≤ y)).length).filter (keeps (l.mergeSort fun x y => decide (x ≤ y)).toArray)).length = (List.range (l.mergeSort fun x y => decide (x ≤ y)).length).length := by
   rw [← h3, h, List.length_range, hl]
  exact filter_full h2 j (List.mem_range.2 hj)
 rw [e] at hu
 refine hs.nodup_iff.1 (hu.imp fun {a b} hab e2 => ?_)
 subst e2
 exact List.lt_irrefl a hab
/-- A list without twins is as long as what it holds. -/
theorem nodup_len : ∀ {l l' : List S}, l.Nodup → (∀ x ∈ l, x ∈ l') → l.length ≤ l'.length
 | [], _, _, _ => by simp
 | a :: l, l', hn, hs => by
  obtain ⟨h1, h2⟩ := List.nodup_cons.1 hn
  have ha := hs a (List.mem_cons_self ..)
  have := nodup_len (l := l) (l' := l'.erase a) h2 fun x hx => by
   have hne : x ≠ a := fun e => h1 (e ▸ hx)
   exact (List.mem_erase_of_ne hne).2 (hs x (List.mem_cons_of_mem _ hx))
  rw [List.length_erase_of_mem ha] at this
  have hp := List.length_pos_of_mem ha
  rw [List.length_cons]
  omega
theorem canon_dup (l : List S) : decide ((canon l).length < l.length) = dupB l := by
 have hle := canon_len l
 cases h : dupB l with
 | false =>
  have := nodup_len (l' := canon l) ((dupB_nodup l).1 h) fun x hx => mem_canon.2 hx
  rw [decide_eq_false_iff_not]
  omega
 | true =>
  rw [decide_eq_true_eq]
  rcases Nat.lt_or_ge (canon l).length l.length with h2 | h2
  ·exact h2
  ·have := (dupB_nodup l).2 (canon_full (by omega))
   rw [this] at h
   cases h
end Go.Proofs.Ytpndglghpojjkaa
/- DERIVED: THE SHELF's CONTRACTS AT THIS DUMP, IN PLAIN WORDS (tools/lay-plain.mjs out of 'TryShelf.lean', which tools/lay-shelf.mjs wrote): THE SAME DECLARATIONS UNDER THE SAME NAMES: 'import', 'namespace', 'open', 'def', 'theorem' AND NOTHING ELSE: no command of the shelf's: FOR A HAND-IN. Each laying: the table of numbers ('.._ren') and one theorem, a field a fact of the dump's own or the kernel's comparison; each contract: ONE APPLICATION. -/
namespace Go.Proofs
open Go.Shelf
def Try.lays190_ren : Go.Shelf.Ren := ⟨fun | 190 => 44 | 125 => 69 | 258 => 68 | 128 => 89 | 129 => 90 | 302 => 80 | 303 => 81 | 304 => 82 | 305 => 83 | 306 => 84 | 307 => 85 | 308 => 86 | 309 => 87 | 310 => 88 | 333 => 94 | 329 => 95 | 330 => 96 | 334 => 97 | 335 => 98 | 336 => 99 | 344 => 101 | n => n, fun | 31 => 40 | 9 => 9 | 3 => 3 | 46 => 115 | 0 => 0 | 51 => 133 | 53 => 85 | 4 => 4 | 183 => 125 | 182 => 124 | 131 => 130 | 5 => 5 | 218 => 136 | 222 => 140 | 228 => 143 | 229 => 144 | n => n, fun | n => n⟩
theorem Try.lays190 : Go.Proofs.Lays.n190 Try.prog Try.lays190_ren := {
 mixed := by kernel_rfl
 f125 := Try.func69.trans (congrArg some (by kernel_rfl))
 f128 := Try.func89.trans (congrArg some (by kernel_rfl))
 f129 := Try.func90.trans (congrArg some (by kernel_rfl))
 f190 := Try.func44.trans (congrArg some (by kernel_rfl))
 f258 := Try.func68.trans (congrArg some (by kernel_rfl))
 f302 := Try.func80.trans (congrArg some (by kernel_rfl))
 f303 := Try.func81.trans (congrArg some (by kernel_rfl))
 f304 := Try.func82.trans (congrArg some (by kernel_rfl))
 f305 := Try.func83.trans (congrArg some (by kernel_rfl))
 f306 := Try.func84.trans (congrArg some (by kernel_rfl))
 f307 := Try.func85.trans (congrArg some (by kernel_rfl))
 f308 := Try.func86.trans (congrArg some (by kernel_rfl))
 f309 := Try.func87.trans (congrArg some (by kernel_rfl))
 f310 := Try.func88.trans (congrArg some (by kernel_rfl))
 f329 := Try.func95.trans (congrArg some (by kernel_rfl))
 f330 := Try.func96.trans (congrArg some (by kernel_rfl))
 f333 := Try.func94.trans (congrArg some (by kernel_rfl))
 f334 := Try.func97.trans (congrArg some (by kernel_rfl))
 f335 := Try.func98.trans (congrArg some (by kernel_rfl))
 f336 := Try.func99.trans (congrArg some (by kernel_rfl))
 f344 := Try.func101.trans (congrArg some (by kernel_rfl))
 t0 := Try.underlying0
 a0 := Try.isAgg0
 z0 := Try.sizeOf0
 v0 := Try.zeroValue0
 t3 := Try.underlying3
 a3 := Try.isAgg3
 z3 := Try.sizeOf3
 v3 := Try.zeroValue3
 t4 := Try.underlying4
 a4 := Try.isAgg4
 z4 := Try.sizeOf4
 v4 := Try.zeroValue4
 t5 := Try.underlying5
 a5 := Try.isAgg5
 z5 := Try.sizeOf5
 v5 := Try.zeroValue5
 t9 := Try.underlying9
 a9 := Try.isAgg9
 z9 := Try.sizeOf9
 v9 := Try.zeroValue9
 t31 := Try.underlying40
 a31 := Try.isAgg40
 z31 := Try.sizeOf40
 v31 := Try.zeroValue40
 t46 := Try.underlying115
 a46 := Try.isAgg115
 z46 := Try.sizeOf115
 v46 := Try.zeroValue115
 t51 := Try.underlying133
 a51 := Try.isAgg133
 z51 := Try.sizeOf133
 v51 := Try.zeroValue133
 t53 := Try.underlying85
 a53 := Try.isAgg85
 z53 := Try.sizeOf85
 v53 := Try.zeroValue85
 t131 := Try.underlying130
 a131 := Try.isAgg130
 z131 := Try.sizeOf130
 v131 := Try.zeroValue130
 t182 := Try.underlying124
 a182 := Try.isAgg124
 z182 := Try.sizeOf124
 v182 := Try.zeroValue124
 t183 := Try.underlying125
 a183 := Try.isAgg125
 z183 := Try.sizeOf125
 v183 := Try.zeroValue125
 t218 := Try.underlying136
 a218 := Try.isAgg136
 z218 := Try.sizeOf136
 v218 := Try.zeroValue136
 t222 := Try.underlying140
 a222 := Try.isAgg140
 z222 := Try.sizeOf140
 v222 := Try.zeroValue140
 t228 := Try.underlying143
 a228 := Try.isAgg143
 z228 := Try.sizeOf143
 v228 := Try.zeroValue143
 t229 := Try.underlying144
 a229 := Try.isAgg144
 z229 := Try.sizeOf144
 v229 := Try.zeroValue144 }
open Go.Sort Go.RowKit in
theorem Try.slices_Sort_string (blk off cap : Nat) (ss : List (List UInt8)) (w : World) (hH : Holds encStr w blk off ss.toArray) (hblk : blk < w.heap.size) (hsz : ss.length < 4611686018427387904) :
  Calls Try.prog 44 #[.slice (some ⟨blk, off, none⟩) ss.length cap] w fun e w' =>
   e = .returned (.tuple #[]) ∧ ∃ n os, w' = grow (putRow encStr (Sort.ahead w n) blk off (ss.mergeSort fun x y => decide (x ≤ y)).toArray) os := Any.slices_Sort_string Try.lays190 blk off cap ss w hH hblk hsz
def Try.laysNm216_ren : Go.Shelf.Ren := ⟨fun | 16 => 37 | n => n, fun | 24 => 40 | 9 => 9 | 4 => 4 | n => n, fun | n => n⟩
theorem Try.laysNm216 : Go.Proofs.Lays2.n16 Try.prog Try.laysNm216_ren := {
 mixed := by kernel_rfl
 f16 := Try.func37.trans (congrArg some (by kernel_rfl))
 t4 := Try.underlying4
 a4 := Try.isAgg4
 z4 := Try.sizeOf4
 v4 := Try.zeroValue4
 t9 := Try.underlying9
 a9 := Try.isAgg9
 z9 := Try.sizeOf9
 v9 := Try.zeroValue9
 t24 := Try.underlying40
 a24 := Try.isAgg40
 z24 := Try.sizeOf40
 v24 := Try.zeroValue40
 i9 := by kernel_rfl }
open Go.RowKit Go.Lib in
/-- slices.Clone at []string: "Clone returns a copy of the slice. The elements are copied using assignment, so this is a shallow clone. The result may have additional unused capacity. The result preserves the nilness of s.": OF A SLICE THAT IS NOT nil IT RETURNS A SLICE THAT IS NOT nil, OF THE SAME ELEMENTS, IN MEMORY OF THE CALL's OWN: in the how-to's words (6f): 'w'.ownsRow B e 1 v' n cells': v' begins at the head of a row among the blocks from B on (B: the heap's size at the call), not frozen, whose first cells are the elements · 'Below B w w'': below B all is as it was. The capacity is whatever the run-time gives. 'zs': what the cells behind the slice's address hold; 'zs.take n': its elements. (LAID: no walk: one application.) -/
theorem Try.slices_Clone_string (b off n c : Nat) (zs : List ByteArray) (w : World) (hz : n ≤ zs.length) (hbig : n * 16 ≤ 140737488355328) (hc : ∀ j, j < zs.length → w.cell? ⟨b, off + j, none⟩ = some (.string (zs.getD j ByteArray.empty))) :
  Calls Try.prog 37 #[.slice (some ⟨b, off, none⟩) n c] w fun e w' => ∃ v', e = .returned v' ∧ w'.ownsRow w.heap.size 9 1 v' n ((zs.take n).map (Value.string)) ∧ v' ≠ .slice none 0 0 ∧ Below w.heap.size w w' := Any.slices_Clone_string Try.laysNm216 b off n c zs w hz hbig hc
open Go.RowKit Go.Lib in
/-- The same at nil: nil comes back; the world is as it was. (LAID: no walk: one application.) -/
theorem Try.slices_Clone_string_nil (n c : Nat) (w : World) :
  Calls Try.prog 37 #[.slice none n c] w fun e w' => e = .returned (.slice none 0 0) ∧ w' = w := Any.slices_Clone_string_nil Try.laysNm216 n c w
open Go.RowKit Go.Lib in
/-- The same at a slice of length 0 that is not nil, WHATEVER ITS ADDRESS (no cell is asked for): a slice that is not nil and owns nothing comes back. (LAID: no walk: one application.) -/
theorem Try.slices_Clone_string_zero (a : Addr) (c : Nat) (w : World) :
  Calls Try.prog 37 #[.slice (some a) 0 c] w fun e w' => ∃ v', e = .returned v' ∧ w'.ownsRow w.heap.size 9 1 v' 0 [] ∧ v' ≠ .slice none 0 0 ∧ Below w.heap.size w w' := Any.slices_Clone_string_zero Try.laysNm216 a c w
def Try.lays194_ren : Go.Shelf.Ren := ⟨fun | 194 => 45 | n => n, fun | 31 => 40 | 9 => 9 | 3 => 3 | 4 => 4 | 0 => 0 | n => n, fun | n => n⟩
theorem Try.lays194 : Go.Proofs.Lays.n194 Try.prog Try.lays194_ren := {
 mixed := by kernel_rfl
 f194 := Try.func45.trans (congrArg some (by kernel_rfl))
 t0 := Try.underlying0
 a0 := Try.isAgg0
 z0 := Try.sizeOf0
 v0 := Try.zeroValue0
 t3 := Try.underlying3
 a3 := Try.isAgg3
 z3 := Try.sizeOf3
 v3 := Try.zeroValue3
 t4 := Try.underlying4
 a4 := Try.isAgg4
 z4 := Try.sizeOf4
 v4 := Try.zeroValue4
 t9 := Try.underlying9
 a9 := Try.isAgg9
 z9 := Try.sizeOf9
 v9 := Try.zeroValue9
 t31 := Try.underlying40
 a31 := Try.isAgg40
 z31 := Try.sizeOf40
 v31 := Try.zeroValue40 }
open Go.RowKit Go.Lib Go.Sort in
/-- slices.Compact at []string, over an array: the library's two loops are walked. (LAID: no walk: one application.) -/
theorem Try.slices_Compact_string_arr (blk off cap : Nat) (d : Array (List UInt8)) (w : World) (hH : Holds encStr w blk off d) (hsz : d.size ≤ 9223372036854775807) (hcap : d.size ≤ cap) :
  Calls Try.prog 45 #[.slice (some ⟨blk, off, none⟩) d.size cap] w fun e w' => e = .returned (.slice (some ⟨blk, off, none⟩) (compactUpTo d d.size).length cap) ∧ ∃ q, w' = putRow encStr (Sort.ahead w q) blk off (compactUpTo d d.size ++ List.replicate (d.size - (compactUpTo d d.size).length) []).toArray := Any.slices_Compact_string_arr Try.lays194 blk off cap d w hH hsz hcap
open Go.RowKit Go.Lib Go.Sort in
/-- slices.Compact at []string: "Compact replaces consecutive runs of equal elements with a single copy. This is like the uniq command found on Unix. Compact modifies the contents of the slice s and returns the modified slice, which may have a smaller length. Compact zeroes the elements between the new length and the original length. The result preserves the nilness of s.": IT RETURNS THE SLICE CUT TO 'Lib.compact zs'; ITS CELLS HOLD 'Lib.compact zs', THEN ZERO VALUES up to the old length; all else is as it was, but for the count of draws. IN THE WORDS OF slices.Sort's CONTRACT ('Holds', 'putRow'): so the everyday 'slices.Sort(xs); xs = slices.Compact(xs)' goes from the one contract to the other. It asks 'zs.length ≤ cap' (every slice's: the reslicing 's[:k]' looks at it). Length 0, nil: '.._empty'. (LAID: no walk: one application.) -/
theorem Try.slices_Compact_string (blk off cap : Nat) (zs : List (List UInt8)) (w : World) (hH : Holds encStr w blk off zs.toArray) (hsz : zs.length ≤ 9223372036854775807) (hcap : zs.length ≤ cap) :
  Calls Try.prog 45 #[.slice (some ⟨blk, off, none⟩) zs.length cap] w fun e w' => e = .returned (.slice (some ⟨blk, off, none⟩) (Lib.compact zs).length cap) ∧ ∃ q, w' = putRow encStr (Sort.ahead w q) blk off (Lib.compact zs ++ List.replicate (zs.length - (Lib.compact zs).length) []).toArray := Any.slices_Compact_string Try.lays194 blk off cap zs w hH hsz hcap
open Go.RowKit Go.Lib Go.Sort in
/-- The same at a slice of length 0, a nil one too: it comes back as it is. (LAID: no walk: one application.) -/
theorem Try.slices_Compact_string_empty (a : Option Addr) (cap : Nat) (w : World) :
  Calls Try.prog 45 #[.slice a 0 cap] w fun e w' => e = .returned (.slice a 0 cap) ∧ w' = w := Any.slices_Compact_string_empty Try.lays194 a cap w
open Go.RowKit Go.Lib Go.Sort in
/-- slices.Compact at []string, of an argument. (LAID: no walk: one application.) -/
theorem Try.slices_Compact_string_cells (b off n c : Nat) (Sx : Nat → ByteArray) (w : World) (hbig : n ≤ 9223372036854775807) (hcap : n ≤ c) (hc : ∀ i, i < n → w.cell? ⟨b, off + i, none⟩ = some (.string (Sx i))) (hf : ∀ j, j < n → w.frozen? ⟨b, off + j, none⟩ = false) :
  Calls Try.prog 45 #[.slice (some ⟨b, off, none⟩) n c] w fun e w' => e = .returned (.slice (some ⟨b, off, none⟩) (Lib.compact (Lib.strsOf Sx n)).length c) ∧ ∃ q, w' = (w.drewN q).setCells b off ((Lib.compact (Lib.strsOf Sx n) ++ List.replicate (n - (Lib.compact (Lib.strsOf Sx n)).length) []).map encStr) := Any.slices_Compact_string_cells Try.lays194 b off n c Sx w hbig hcap hc hf
open Go.RowKit Go.Sort in
/-- .. and plain. (LAID: no walk: one application.) -/
theorem Try.slices_Sort_string_none (p : Option Addr) (cap : Nat) (w : World) :
  Calls Try.prog 44 #[.slice p 0 cap] w fun e w' => e = .returned (.tuple #[]) ∧ w' = w := Any.slices_Sort_string_none Try.lays190 p cap w
end Go.Proofs
/- The walk of pts.ordered: all strings of some lists, rising, each once. -/
namespace Go.Proofs.Ytpndglghpojjkaa
open Go.RowKit

theorem Try.infoStr : (Try.prog.info? 9).map (fun i => (i.zero, i.size, i.bytes)) = some (some (.string ⟨#[]⟩), 1, 16) := by kernel_rfl
theorem own_rowA {w : World} {base : Nat} {e : TypeId} {v : Value} {n : Nat} {xs : List Value} (h : w.ownsRow base e 1 v n xs) : ∃ A c, v = .slice A n c ∧ Row w w.heap.size A xs ∧ n ≤ c := by
 obtain ⟨A, c, e, hr, _, hc⟩ := own_row h
 exact ⟨A, c, e, hr, hc⟩
/-- The lists ls of strings lie behind A, each with its strings. -/
def Lists (w : World) (B : Nat) (A : Option Addr) (ls : List (List S)) : Prop :=
 ∃ vs : List Value, vs.length = ls.length ∧ Row w B A vs ∧ ∀ i (h : i < ls.length), ∃ Ai ci, vs[i]? = some (.slice Ai ls[i].length ci) ∧ Row w B Ai (ls[i].map encStr)
theorem Lists.below {w w' : World} {B : Nat} {A : Option Addr} {ls : List (List S)} (h : Lists w B A ls) (hb : Below B w w') : Lists w' B A ls := by
 obtain ⟨vs, hl, hr, hi⟩ := h
 exact ⟨vs, hl, hr.below hb, fun i hlt => by
  obtain ⟨Ai, ci, h1, h2⟩ := hi i hlt
  exact ⟨Ai, ci, h1, Row.below h2 hb⟩⟩
theorem Lists.at_ {w : World} {B : Nat} {A : Option Addr} {ls : List (List S)} {k : Nat} (h : Lists w B A ls) (hk : k < ls.length) :
  ∃ b off Ai ci, A = some ⟨b, off, none⟩ ∧ b < B ∧ w.cell? ⟨b, off + k, none⟩ = some (.slice Ai ls[k].length ci) ∧ Row w B Ai (ls[k].map encStr) := by
 obtain ⟨vs, hl, hr, hi⟩ := h
 obtain ⟨Ai, ci, h1, h2⟩ := hi k hk
 obtain ⟨b, off, e, hb, hc⟩ := hr.at_ (k := k) (by omega)
 have : vs[k]'(by omega) = .slice Ai ls[k].length ci := by
  have h4 := List.getElem?_eq_getElem (l := vs) (i := k) (by omega)
  rw [h4] at h1
  exact Option.some.inj h1
 exact ⟨b, off, Ai, ci, e, hb, by rw [hc, this], h2⟩
/-- One list, just laid into a row. -/
theorem Lists.one {w : World} (t : TypeId) {A : Option Addr} {n c : Nat} {l : List S} (hn : l.length = n) (h : Row w w.heap.size A (l.map encStr)) :
  Lists (w.alloc (.cells #[.slice A n c] t)) (w.alloc (.cells #[.slice A n c] t)).heap.size (some ⟨w.heap.size, 0, none⟩) [l] := by
 subst hn
 refine ⟨_, rfl, Row.fresh w t [.slice A l.length c], fun i hi => ?_⟩
 match i, hi with
 | 0, _ => exact ⟨A, c, rfl, (h.below (below_new w _)).more (below_new w _).size⟩

open Go.Sort in
/-- From what the sort's and Compact's contracts leave to what is said here. -/
theorem sorted_left {w w1 : World} {g cap n nn q : Nat} {os : Array Obj} {ss : List S} (hown : w1.ownsRow w.heap.size 9 1 (.slice (some ⟨g, 0, none⟩) n cap) n (ss.map encStr)) (hbel : Below w.heap.size w w1) (hbg : w.heap.size ≤ g) (hlen : ss.length = n) :
  (putRow encStr (Sort.ahead (grow (putRow encStr (Sort.ahead w1 nn) g 0 (ss.mergeSort fun x y => decide (x ≤ y)).toArray) os) q) g 0 (canon ss ++ List.replicate (n - (canon ss).length) []).toArray).ownsRow w.heap.size 9 1 (.slice (some ⟨g, 0, none⟩) (canon ss).length cap) (canon ss).length ((canon ss).map encStr) ∧
  Below w.heap.size w (putRow encStr (Sort.ahead (grow (putRow encStr (Sort.ahead w1 nn) g 0 (ss.mergeSort fun x y => decide (x ≤ y)).toArray) os) q) g 0 (canon ss ++ List.replicate (n - (canon ss).length) []).toArray) := by
 have hl2 : (ss.mergeSort fun x y => decide (x ≤ y)).length = ss.length := List.length_mergeSort ss
 have hle := canon_len ss
 subst hlen
 rcases hown.2 with ⟨h0, _⟩ | ⟨g', cap', cur, hv, hbase, hb, h1, h2, h3, h4⟩
 ·cases h0
 cases hv
 have hs := ownsRow_sorted (n := nn) (os := os) (ts := ss.mergeSort fun x y => decide (x ≤ y)) hl2 hbase hb h1 h2 h3
 have hc := Lib.ownsRow_putRow (q := q) (k := (canon ss).length) (ys := canon ss ++ List.replicate (ss.length - (canon ss).length) []) hs (by simp; omega) (by omega)
 rw [List.take_left] at hc
 exact ⟨hc, Lib.below_putRow (hbel.grown (grownBy_sorted _) hbel.size (fun j hj => by cases hj; exact hbase)) hbg⟩

end Go.Proofs.Ytpndglghpojjkaa
/- Package names: twice: does a name occur twice? The row is sorted in place. -/
namespace Go.Proofs.Ytpndglghpojjkaa
open Go.RowKit

set_option maxRecDepth 100000 in
set_option maxHeartbeats 4000000 in
theorem twice_any (w0 w : World) (v : Value) (l : List S) (hl : l.length ≤ 1000000) (ho : w.ownsRow w0.heap.size 9 1 v l.length (l.map encStr)) (hb : Below w0.heap.size w0 w) :
  Calls Try.prog 22 #[v] w fun e w' => e = .returned (.bool (dupB l)) ∧ Below w0.heap.size w0 w' := by
 by_cases hnil : v = .slice none 0 0
 ·subst hnil
  have hss0 : l = [] := by
   rcases ho.2 with ⟨_, h⟩ | ⟨g, cap, cur, h, _⟩
   ·exact List.eq_nil_of_length_eq_zero h
   ·cases h
  subst hss0
  have hb1 := Lib.hid hb
  clear ho hb
  go_enter Try.func22, Try.ntmps22
  go_wp2_with fail
  refine (Try.slices_Sort_string_none none 0 w).mono ?_
  rintro e w2 ⟨rfl, rfl⟩
  go_wp2_with fail
  refine (Try.slices_Compact_string_empty none 0 w2).mono ?_
  rintro e w3 ⟨rfl, rfl⟩
  go_wp2_with fail
  go_ret
  exact ⟨rfl, hb1.out⟩
 ·obtain ⟨g, cap, hv, hbg, hgl, hnc, hcm, hlen, hH⟩ := Lib.holds_of_ownsRow ho hnil
  subst hv
  have hfin := Lib.hid (fun nn os q => sorted_left (nn := nn) (os := os) (q := q) (ss := l) ho hb hbg rfl)
  have hsort := Lib.hid (Try.slices_Sort_string g 0 cap l w hH hgl (by omega))
  have hH2 : Hid (∀ nn os, Sort.Holds encStr (Sort.grow (Sort.putRow encStr (Sort.ahead w nn) g 0 (l.mergeSort fun x y => decide (x ≤ y)).toArray) os) g 0 (l.mergeSort fun x y => decide (x ≤ y)).toArray) := Lib.hid fun nn os =>
   Sort.holds_grow encStr _ os g 0 _ (by simpa [Sort.putRow, Sort.mapBlock, Sort.ahead] using hgl) (Sort.holds_putRow encStr _ g 0 _ _ (Sort.holds_ahead encStr w nn g 0 _ hH) (by simp))
  have hl2 : Hid ((l.mergeSort fun x y => decide (x ≤ y)).length = l.length) := Lib.hid (List.length_mergeSort l)
  have hnc' := Lib.hid hnc
  have hdup := Lib.hid (canon_dup l)
  clear ho hb hH hnil hlen hnc
  go_enter Try.func22, Try.ntmps22
  go_wp2_with fail
  refine hsort.out.mono ?_
  rintro e w2 ⟨rfl, nn, os, rfl⟩
  clear hsort
  go_wp2_with fail
  have hcomp := Try.slices_Compact_string g 0 cap (l.mergeSort fun x y => decide (x ≤ y)) _ (hH2.out nn os) (by rw [hl2.out]; omega) (by rw [hl2.out]; exact hnc'.out)
  rw [hl2.out] at hcomp
  refine hcomp.mono ?_
  rintro e w3 ⟨rfl, q, rfl⟩
  have hf := Lib.hid (hfin.out nn os q)
  clear hcomp hH2 hfin
  go_wp2_with fail
  go_ret
  refine ⟨?_, hf.out.2⟩
  rw [← hdup.out]
  congr 2
end Go.Proofs.Ytpndglghpojjkaa
/- Package names: Resolve. -/
namespace Go.Proofs.Ytpndglghpojjkaa
open Go.RowKit Go.Deep

def globS : List UInt8 := [103, 108, 111, 98, 97, 108, 115]
def fNames (l : List Vr) : List S := l.map Vr.nm
/-- The function resolved, or where a statement does not keep the rules. -/
def resBody (f : Fnc) : Option Nat → Fnc × Int × Nat
 | some a => (Fnc.none, a, 61)
 | none => (⟨f.nm, f.ps, f.ls, listP (kindV (f.ps ++ f.ls)) f.body⟩, 0, 0)
def resTwice (f : Fnc) : Fnc × Int × Nat := if dupB (fNames (f.ps ++ f.ls)) then (Fnc.none, -1, 60) else resBody f (firstP (kindV (f.ps ++ f.ls)) f.body)
/-- What Resolve tells: the function resolved; where, which error. -/
def resolveP (f : Fnc) (unit : S) : Fnc × Int × Nat := if f.nm ≠ unit ∨ unit = globS then (Fnc.none, -1, 62) else resTwice f
/-- What Resolve leaves. -/
def ResPost (r : Fnc × Int × Nat) (w : World) (e : Ending) (w' : World) : Prop :=
 ∃ vp vl vb, e = .returned (.tuple #[.agg #[.string (strV r.1.nm), vp, vl, vb], .int .i64 r.2.1, .int .i64 r.2.2]) ∧ FnAt w' Evr r.1 vp vl vb ∧ Below w.heap.size w w'
theorem strV_nb {a b : List UInt8} (h : a ≠ b) : ((strV a).toList == (strV b).toList) = false := by
 rw [strV_toList, strV_toList]
 simpa using h
theorem ResPost.no (w w' : World) (at_ : Int) (k : Nat) (hb : Below w.heap.size w w') : ResPost (Fnc.none, at_, k) w (.returned (.tuple #[.agg #[.string ⟨#[]⟩, .slice none 0 0, .slice none 0 0, .slice none 0 0], .int .i64 at_, .int .i64 k])) w' :=
 ⟨_, _, _, rfl, FnAt.none_ w' Evr, hb⟩
set_option maxRecDepth 100000 in
set_option maxHeartbeats 1000000 in
theorem resolve_unit (w : World) (f : Fnc) (unit : S) (h : f.nm ≠ unit ∨ unit = globS) (A1 A2 A3 : Option Addr) (n1 n2 n3 c1 c2 c3 : Nat) :
  Calls Try.prog 6 #[.agg (fnC f.nm A1 A2 A3 n1 c1 n2 c2 n3 c3), .string (strV unit)] w (ResPost (Fnc.none, -1, 62) w) := by
 have hb := ((Below.refl w.heap.size w).alloc (Nat.le_refl _) (.cells (fnC f.nm A1 A2 A3 n1 c1 n2 c2 n3 c3) 26)).alloc (by simp) (.cells #[.string ⟨#[]⟩, .slice none 0 0, .slice none 0 0, .slice none 0 0] 26)
 have hn := (Holds.new (w.alloc (.cells (fnC f.nm A1 A2 A3 n1 c1 n2 c2 n3 c3) 26)) 26 #[.string ⟨#[]⟩, .slice none 0 0, .slice none 0 0, .slice none 0 0])
 rw [show (w.alloc (.cells (fnC f.nm A1 A2 A3 n1 c1 n2 c2 n3 c3) 26)).heap.size = w.heap.size + 1 by simp] at hn
 have hb' := Lib.hid (ResPost.no w _ (-1) 62 hb)
 have hn' := Lib.hid hn
 clear hb hn
 unfold fnC at hb' hn' ⊢
 by_cases h1 : f.nm = unit
 ·have h2 : unit = globS := by rcases h with h | h; exact absurd h1 h; exact h
  subst h1
  have h3 : ((strV f.nm).toList == [103, 108, 111, 98, 97, 108, 115]) = true := by rw [h2]; simp [globS, strV_toList]
  clear h2 h
  go_enter Try.func6, Try.ntmps6
  go_wp2_with fail
  exact ret_cell3 rfl rfl rfl hn'.out Try.underlying26 Try.sFunc hb'.out
 ·have h3 := strV_nb h1
  clear h1 h
  go_enter Try.func6, Try.ntmps6
  go_wp2_with fail
  exact ret_cell3 rfl rfl rfl hn'.out Try.underlying26 Try.sFunc hb'.out
/-- Names as values. -/
def nmsV (l : List Vr) (k : Nat) : List Value := (l.take k).map fun x => encStr x.nm
theorem nmsV_snoc (l : List Vr) (k : Nat) (h : k < l.length) : nmsV l (k + 1) = nmsV l k ++ [.string (strV l[k].nm)] := by
 unfold nmsV
 rw [List.take_succ_eq_append_getElem h, List.map_append, List.map_cons, List.map_nil]
 rfl
theorem nmsV_all {l : List Vr} {n : Nat} (h : l.length = n) : nmsV l n = (fNames l).map encStr := by
 subst h
 unfold nmsV fNames
 rw [List.take_length, List.map_map]
 rfl
/-- Names gathered so far: a row of the call's own. -/
structure NmL (l : List Vr) (w3 : World) (v : Value) (k : Nat) (w : World) : Prop where
 own : w.ownsRow w3.heap.size 9 1 v k (nmsV l k)
 bl : Below w3.heap.size w3 w
theorem vrow_at {w : World} {S : Nat → Prop} {A : Option Addr} {l : List Vr} (h : RowS w S A (l.flatMap Vr.cells)) {i : Nat} (hi : i < l.length) : ∃ b off, A = some ⟨b, off, none⟩ ∧ w.cell? ⟨b, off + i * 2, none⟩ = some (.string (strV l[i].nm)) ∧ w.cell? ⟨b, off + i * 2 + 1, none⟩ = some (.bool l[i].ptr) := by
 have hne : l.flatMap Vr.cells ≠ [] := fun e => by
  have := vr_len l
  rw [e] at this
  simp at this
  omega
 obtain ⟨b, off, e, -, hc⟩ := h hne
 refine ⟨b, off, e, hc _ _ (flatMap_vr l hi 0 _ rfl), ?_⟩
 rw [Nat.add_assoc]
 exact hc _ _ (flatMap_vr l hi 1 _ rfl)
/-- Resolve under way: its function's box, its result. -/
structure RvW (gp gr : Nat) (cs : Array Value) (w0 w : World) : Prop where
 hp : Holds w gp 26 cs
 hr : Holds w gr 26 zero4
 bl : Below w0.heap.size w0 w
 p0 : w0.heap.size ≤ gp
 r0 : w0.heap.size ≤ gr
 pr : gp < gr
section
variable {gp gr : Nat} {cs : Array Value} {w0 w w' : World} {a b c d : Value}
theorem RvW.below (h : RvW gp gr cs w0 w) (hb : Below w.heap.size w w') : RvW gp gr cs w0 w' := ⟨h.hp.below hb h.hp.lt, h.hr.below hb h.hr.lt, h.bl.trans (hb.mono h.bl.size), h.p0, h.r0, h.pr⟩
theorem RvW.facts (h : RvW gp gr #[a, b, c, d] w0 w) : w.cell? ⟨gp, 0, none⟩ = some a ∧ w.cell? ⟨gp, 1, none⟩ = some b ∧ w.cell? ⟨gp, 2, none⟩ = some c ∧ w.cell? ⟨gp, 3, none⟩ = some d ∧ gp < w.heap.size ∧ ∀ i, w.frozen? ⟨gp, i, none⟩ = false :=
 ⟨h.hp.cell 0, h.hp.cell 1, h.hp.cell 2, h.hp.cell 3, h.hp.lt, fun i => h.hp.frozen i⟩
theorem RvW.factsR (h : RvW gp gr cs w0 w) : w.cell? ⟨gr, 0, none⟩ = some (.string ⟨#[]⟩) ∧ w.cell? ⟨gr, 1, none⟩ = some (.slice none 0 0) ∧ w.cell? ⟨gr, 2, none⟩ = some (.slice none 0 0) ∧ w.cell? ⟨gr, 3, none⟩ = some (.slice none 0 0) ∧ gr < w.heap.size ∧ ∀ i, w.frozen? ⟨gr, i, none⟩ = false :=
 ⟨h.hr.cell 0, h.hr.cell 1, h.hr.cell 2, h.hr.cell 3, h.hr.lt, fun i => h.hr.frozen i⟩
theorem RvW.put (h : RvW gp gr cs w0 w) (i : Nat) (u : Value) : RvW gp gr (cs.setIfInBounds i u) w0 (w.setCell ⟨gp, i, none⟩ u) := by
 have hW : Writes [some gp] w (w.setCell ⟨gp, i, none⟩ u) := Writes.store w (by simp) u
 exact ⟨h.hp.store i u, hW.holds h.hr (by have := h.pr; simp; omega), h.bl.trans (hW.below h.bl.size fun k hk => by simp at hk; subst hk; exact h.p0), h.p0, h.r0, h.pr⟩
theorem RvW.writes {x : Nat} (h : RvW gp gr cs w0 w) (hW : Writes [some x] w w') (hx : gr < x) : RvW gp gr cs w0 w' := by
 have h1 := h.pr
 have h2 := h.r0
 exact ⟨hW.holds h.hp (by simp; omega), hW.holds h.hr (by simp; omega), h.bl.trans (hW.below h.bl.size fun k hk => by simp at hk; omega), h.p0, h.r0, h.pr⟩
end
theorem VrAt.new {w : World} {l : List Vr} {v : Value} {base : Nat} (h : w.ownsRow base 59 2 v l.length (l.flatMap Vr.cells)) (hl : l.length ≤ 100000) (hn : ∀ x ∈ l, x.nm.length ≤ 4096) : ∃ A c, v = .slice A l.length c ∧ VrAt w (Ge base) l (.slice A l.length c) := by
 obtain ⟨A, c, rfl, hr, hc⟩ := RowS.own (S := Ge base) h (fun _ hg => ownK_ge h hg)
 exact ⟨A, c, rfl, A, c, rfl, hl, hc, hr, hn⟩
theorem VrAt.wr1 {w w' : World} {l : List Vr} {v : Value} {base g : Nat} (h : VrAt w (Ge base) l v) (hW : Writes [some g] w w') (hg : g < base) : VrAt w' (Ge base) l v :=
 h.keep fun x hx hS => hW.block x hx (by simp; exact fun e => absurd hS (by subst e; exact Nat.not_le_of_lt hg))
theorem RsI.wr {m r a n x : Nat} {K : List UInt8 → Nat} {w w' : World} (h : RsI m K r a n w) (hW : Writes [some x] w w') (hr : x < r) (hm : x < m) : RsI m K r a n w' := by
 have := h.ra
 exact ⟨h.km.writes hW (by simp; omega), hW.holds h.hr (by simp; omega), hW.holds h.ha (by simp; omega), h.ra, h.ma⟩
set_option maxRecDepth 100000 in
set_option maxHeartbeats 8000000 in
theorem resolve_go (w : World) (f : Fnc) (hg : f.nm ≠ globS) (A1 A2 A3 : Option Addr) (c1 c2 c3 : Nat) (hF : FnAt w Evr f (.slice A1 f.ps.length c1) (.slice A2 f.ls.length c2) (.slice A3 f.body.len c3)) :
  Calls Try.prog 6 #[.agg (fnC f.nm A1 A2 A3 f.ps.length c1 f.ls.length c2 f.body.len c3), .string (strV f.nm)] w (ResPost (resolveP f f.nm) w) := by
 obtain ⟨i0, hi, hz0, hz1, hz2⟩ := info_parts Try.infoStr
 obtain ⟨nm, ps, ls, body⟩ := f
 simp only at hg hF ⊢
 obtain ⟨hnm, h1, h2, hB⟩ := hF
 simp only at hnm h1 h2 hB
 obtain ⟨R, hR⟩ : ∃ R, R = resolveP ⟨nm, ps, ls, body⟩ nm := ⟨_, rfl⟩
 have hR2 : resTwice ⟨nm, ps, ls, body⟩ = R := by
  rw [hR]
  unfold resolveP
  rw [if_neg]
  rintro (h | h)
  ·exact h rfl
  ·exact hg h
 have hR' := Lib.hid hR2
 rw [← hR]
 have hgl : ((strV nm).toList == [103, 108, 111, 98, 97, 108, 115]) = false := by rw [strV_toList]; simpa [globS] using hg
 clear hR hR2 hg
 have hlen1 : ps.length ≤ 100000 := by obtain ⟨_, _, _, a1, _⟩ := h1; exact a1
 have hlen2 : ls.length ≤ 100000 := by obtain ⟨_, _, _, a1, _⟩ := h2; exact a1
 have hv1 : Hid (∀ x ∈ ps, x.nm.length ≤ 4096) := Lib.hid (by obtain ⟨_, _, _, _, _, _, a1⟩ := h1; exact a1)
 have hv2 : Hid (∀ x ∈ ls, x.nm.length ≤ 4096) := Lib.hid (by obtain ⟨_, _, _, _, _, _, a1⟩ := h2; exact a1)
 have hr1 : Hid (RowS w Evr A1 (ps.flatMap Vr.cells)) := Lib.hid (by obtain ⟨_, _, e, _, _, a1, _⟩ := h1; injection e with e; subst e; exact a1)
 have hr2 : Hid (RowS w Evr A2 (ls.flatMap Vr.cells)) := Lib.hid (by obtain ⟨_, _, e, _, _, a1, _⟩ := h2; injection e with e; subst e; exact a1)
 have hdec := Lib.hid (fun (w : World) (h1 : VrAt w Evr ps (.slice A1 ps.length c1)) (h2 : VrAt w Evr ls (.slice A2 ls.length c2)) => declared_any w nm ps ls A1 A2 A3 c1 c2 body.len c3 h1 h2)
 have hvis := Lib.hid (fun (w : World) (h1 : VrAt w Evr ps (.slice A1 ps.length c1)) (h2 : VrAt w Evr ls (.slice A2 ls.length c2)) => visitorOf_any w nm ps ls A1 A2 A3 c1 c2 body.len c3 h1 h2)
 unfold fnC at hdec hvis ⊢
 obtain ⟨n1, hn1⟩ : ∃ y, y = ps.length := ⟨_, rfl⟩
 obtain ⟨n2, hn2⟩ : ∃ y, y = ls.length := ⟨_, rfl⟩
 obtain ⟨n3, hn3⟩ : ∃ y, y = body.len := ⟨_, rfl⟩
 rw [← hn1, ← hn2, ← hn3] at hdec hvis ⊢
 rw [← hn1] at h1 hlen1
 rw [← hn2] at h2 hlen2
 rw [← hn3] at hB
 obtain ⟨w2, hw2⟩ : ∃ x, x = (w.alloc (.cells #[.string (strV nm), .slice A1 n1 c1, .slice A2 n2 c2, .slice A3 n3 c3] 26)).alloc (.cells #[.string ⟨#[]⟩, .slice none 0 0, .slice none 0 0, .slice none 0 0] 26) := ⟨_, rfl⟩
 obtain ⟨gp, hgp⟩ : ∃ x, x = w.heap.size := ⟨_, rfl⟩
 obtain ⟨gr, hgr⟩ : ∃ x, x = w.heap.size + 1 := ⟨_, rfl⟩
 have hV : Hid (RvW gp gr #[.string (strV nm), .slice A1 n1 c1, .slice A2 n2 c2, .slice A3 n3 c3] w w2) := Lib.hid (by
  refine ⟨?_, ?_, ?_, by omega, by omega, by omega⟩
  ·rw [hw2, hgp]
   exact (Holds.new w _ _).alloc _
  ·rw [hw2, hgr]
   have := Holds.new (w.alloc (.cells #[.string (strV nm), .slice A1 n1 c1, .slice A2 n2 c2, .slice A3 n3 c3] 26)) 26 zero4
   have e : (w.alloc (.cells #[.string (strV nm), .slice A1 n1 c1, .slice A2 n2 c2, .slice A3 n3 c3] 26)).heap.size = w.heap.size + 1 := by simp
   rw [e] at this
   exact this
  ·rw [hw2]
   exact ((Below.refl _ _).alloc (Nat.le_refl _) _).alloc (by simp) _)
 have h1' := Lib.hid h1
 have h2' := Lib.hid h2
 have hB' := Lib.hid hB
 have hn1' := Lib.hid hn1
 have hn2' := Lib.hid hn2
 have hn3' := Lib.hid hn3
 have hfo := Lib.hid hw2.symm
 have hgp' := Lib.hid hgp.symm
 have hgr' := Lib.hid hgr.symm
 have hnm' := Lib.hid hnm
 have up : Hid (∀ w', Below w.heap.size w w' → VrAt w' Evr ps (.slice A1 n1 c1) ∧ VrAt w' Evr ls (.slice A2 n2 c2) ∧ SlAt w' Evr body (.slice A3 n3 c3)) := Lib.hid fun w' hb => ⟨h1.keep fun x hx _ => hb.block x hx, h2.keep fun x hx _ => hb.block x hx, hB.keep fun x hx _ => hb.block x hx⟩
 clear hw2 hgp hgr h1 h2 hB hn1 hn2 hn3 hnm
 go_enter Try.func6, Try.ntmps6
 go_wp2_with fail
 rw [hfo.out, hgp'.out]
 rw [show gp + 1 = gr from by rw [← hgp'.out]; exact hgr'.out]
 clear hfo
 refine (hdec.out w2 (up.out w2 hV.out.bl).1 (up.out w2 hV.out.bl).2.1).mono ?_
 clear hdec
 rintro e w3 ⟨v, rfl, ho, hb⟩
 have hV3 := Lib.hid (hV.out.below hb)
 obtain ⟨N, hN⟩ : ∃ y, y = n1 + n2 := ⟨_, rfl⟩
 rw [← hN] at ho
 obtain ⟨vA, vc, rfl, hrow, hvc⟩ := RowS.own (S := Evr) ho (fun _ _ => trivial)
 have hln : Hid ((ps ++ ls).length = N) := Lib.hid (by rw [List.length_append, ← hn1'.out, ← hn2'.out, hN])
 have hN6 : N ≤ 200000 := by omega
 have hrow3 := Lib.hid hrow
 have hL0 : Hid (NmL (ps ++ ls) w3 (.slice none 0 0) 0 w3) := Lib.hid ⟨World.ownsRow_nil _ _ _ _, Below.refl _ _⟩
 clear ho hb hrow hV hN hgr' hgp'
 obtain ⟨q0, q1, q2, q3, ql, qf⟩ := hV3.out.facts
 clear q0 q1 q2 q3 ql qf
 go_wp2_with fail
 go_loopw [7, 25] (fun v i wl => ∃ k : Nat, k ≤ N ∧ i = .int .i64 k ∧ Hid (NmL (ps ++ ls) w3 v k wl)) (fun _ i _ => N - (intOf i).toNat)
 case atStart => exact ⟨0, by omega, rfl, hL0⟩
 clear hL0
 obtain ⟨k, hk, rfl, hL⟩ := hrel
 rename World => wl
 by_cases hlt : k < N
 ·have hlt2 : k < (ps ++ ls).length := by rw [hln.out]; exact hlt
  obtain ⟨b, off, rfl, q0, q1⟩ := vrow_at (hrow3.out.up hL.out.bl) hlt2
  have htk := Lib.hid (nmsV_snoc (ps ++ ls) k hlt2)
  have ho := Lib.hid ((hL.out.own.alloc (.cells #[.string (strV (ps ++ ls)[k].nm), .bool (ps ++ ls)[k].ptr] 59)).alloc (.cells #[.string (strV (ps ++ ls)[k].nm)] 9))
  have hbz := hL.out.bl.size
  generalize (ps ++ ls)[k] = x at q0 q1 htk ho
  obtain ⟨nx, px⟩ := x
  simp only at q0 q1 htk ho
  go_wp2_with (at_builtin; refine wpList_append_own _ rfl _ _ 40 rfl w3.heap.size 9 i0 (.string ⟨#[]⟩) 1 16 Try.underlying40 hi hz0 hz1 hz2 rfl (by decide) _ _ _ rfl ho.out ⟨wl.heap.size + 1, 0, none⟩ 1 1 [.string (strV nx)] rfl rfl ?c1 ?c2 ?c3 ?c4 ?c5 ?_)
  case c1 =>
   have h := cell_one_new (wl.alloc (.cells #[.string (strV nx), .bool px] 59)) (.string (strV nx)) 9
   rw [show (wl.alloc (.cells #[.string (strV nx), .bool px] 59)).heap.size = wl.heap.size + 1 by simp] at h
   exact h
  case c2 => intro u hu; simp at hu; subst hu; rfl
  case c3 => unfold maxLen; omega
  case c4 => omega
  case c5 => simp; omega
  intro v' w4 hown' hgrow _
  have hL2 : Hid (NmL (ps ++ ls) w3 v' (k + 1) w4) := Lib.hid ⟨by rw [htk.out]; exact hown', ((hL.out.bl.alloc hbz _).alloc (by simp; omega) _).grown hgrow (by simp; omega) (fun g hg => (ho.out.lt g hg).1)⟩
  clear hown' hgrow q0 q1 htk ho hbz hL
  go_wp2_with fail
  exact ⟨⟨k + 1, by omega, by simp, hL2⟩, by simp [intOf]; omega⟩
 ·obtain rfl : k = N := by omega
  have ho := hL.out.own
  rw [nmsV_all hln.out] at ho
  have hln2 := Lib.hid (show (fNames (ps ++ ls)).length = k by unfold fNames; rw [List.length_map]; exact hln.out)
  rw [← hln2.out] at ho
  have htw := Lib.hid (twice_any w3 wl u7 (fNames (ps ++ ls)) (by rw [hln2.out]; omega) ho hL.out.bl)
  clear ho hL hrow3
  go_wp2_with fail
  refine htw.out.mono ?_
  rintro e w5 ⟨rfl, hb5⟩
  have hV5 := Lib.hid (hV3.out.below hb5)
  clear htw hb5 hV3
  cases hd : dupB (fNames (ps ++ ls)) with
  | true =>
   have hRR : Hid (R = (Fnc.none, -1, 60)) := Lib.hid (by rw [← hR'.out]; unfold resTwice; rw [if_pos hd])
   obtain ⟨r0, r1, r2, r3, rl, rf⟩ := hV5.out.factsR
   replace rf := Lib.hid rf
   have f0 := rf.out 0
   have f1 := rf.out 1
   have f2 := rf.out 2
   have f3 := rf.out 3
   clear hd hR'
   go_wp2_with fail
   refine ret_cell3 rfl rfl rfl (hV5.out.hr.put4 _ _ _ _) Try.underlying26 Try.sFunc ?_
   rw [hRR.out]
   exact ResPost.no w _ (-1) 60 (hV5.out.bl.trans ((put4_writes w5 gr _ _ _ _).below hV5.out.bl.size fun j hj => by have := hV5.out.r0; simp at hj; omega))
  | false =>
   have hRR : Hid (R = resBody ⟨nm, ps, ls, body⟩ (firstP (kindV (ps ++ ls)) body)) := Lib.hid (by rw [← hR'.out]; unfold resTwice; rw [if_neg (by simp only; rw [hd]; simp)])
   clear hd hR'
   obtain ⟨q0, q1, q2, q3, ql, qf⟩ := hV5.out.facts
   clear qf
   go_wp2_with fail
   refine (hvis.out w5 (up.out w5 hV5.out.bl).1 (up.out w5 hV5.out.bl).2.1).mono ?_
   clear hvis
   rintro e w6 ⟨m, rfl, hm6, hK6, hb6⟩
   obtain ⟨K, hKK⟩ : ∃ K, K = kindV (ps ++ ls) := ⟨_, rfl⟩
   have hRR2 : Hid (R = resBody ⟨nm, ps, ls, body⟩ (firstP K body)) := Lib.hid (by rw [hRR.out, hKK])
   have hK2 : Hid (K = kindV (ps ++ ls)) := Lib.hid hKK
   rw [← hKK] at hK6
   have hV6 := hV5.out.below hb6
   obtain ⟨r, hr⟩ : ∃ x, x = w6.heap.size := ⟨_, rfl⟩
   obtain ⟨a, ha⟩ : ∃ x, x = w6.heap.size + 1 := ⟨_, rfl⟩
   obtain ⟨w8, hw8⟩ : ∃ x, x = (w6.alloc (.cells #[.map (some m)] 66)).alloc (.cells #[.int .i64 0] 3) := ⟨_, rfl⟩
   have hb8 : Below w6.heap.size w6 w8 := by rw [hw8]; exact ((Below.refl _ _).alloc (Nat.le_refl _) _).alloc (by simp) _
   have hV8 := hV6.below hb8
   have hI8 : RsI m K r a 0 w8 := by
    refine ⟨hK6.below hb8, ?_, ?_, by omega, by have := hK6.lt; omega⟩
    ·rw [hw8, hr]
     exact (Holds.new w6 _ _).alloc _
    ·rw [hw8, ha]
     have h := Holds.new (w6.alloc (.cells #[.map (some m)] 66)) 3 #[.int .i64 0]
     rw [show (w6.alloc (.cells #[.map (some m)] 66)).heap.size = w6.heap.size + 1 by simp] at h
     exact h
   have hgra : gr < a := by have := hV6.hr.lt; omega
   have hgpm : Hid (gp < r ∧ gp < m) := Lib.hid (by have h1 := hV5.out.hp.lt; have h2 := hV6.hp.lt; omega)
   have hSl8 : SlAt w8 (NotOf [some a]) body (.slice A3 n3 c3) := by
    have h1 := (hB'.out.mono (S' := NotOf [some a]) fun x hx _ => by
     have h2 := hV6.bl.size
     unfold NotOf
     simp
     omega)
    exact h1.keep fun x hx _ => hV8.bl.block x hx
   have hwk := Lib.hid (vstmts_any (rvis_snk m r a K) (some m) body.dep body (Nat.le_refl _) w8 0 _ hSl8 hI8)
   have hfo8 := Lib.hid hw8.symm
   have hr' := Lib.hid hr.symm
   have ha' := Lib.hid ha.symm
   have hV8' := Lib.hid hV8
   have hgra' := Lib.hid hgra
   obtain ⟨q0, q1, q2, q3, ql, qf⟩ := hV6.facts
   have qb := hb6.size
   clear qf hK6 hV6 hw8 hb8 hV8 hI8 hgra hSl8 hr ha hb6 hKK hRR hV5 hm6
   go_wp2_with fail
   rw [hfo8.out, ha'.out, hr'.out]
   refine hwk.out.mono ?_
   rintro e w9 ⟨rfl, hI9, hW9⟩
   have hV9 := Lib.hid (hV8'.out.writes hW9 hgra'.out)
   have hga1 : ¬ a = gr := by have := hgra'.out; omega
   have hga2 : ¬ gr = a := by have := hgra'.out; omega
   clear hwk hfo8 hV8' hgra' q0 q1 q2 q3 ql qb hW9 hr' ha'
   cases hf : firstP K body with
   | some b =>
    rw [(vis_first K body 0).1 b hf] at hI9 ⊢
    have hR9 : Hid (R = (Fnc.none, (b : Int), 61)) := Lib.hid (by rw [hRR2.out, hf]; rfl)
    have qa : w9.cell? ⟨a, 0, none⟩ = some (.int .i64 b) := hI9.ha.cell 0
    have qal := hI9.ha.lt
    obtain ⟨r0, r1, r2, r3, rl, rf⟩ := hV9.out.factsR
    replace rf := Lib.hid rf
    have f0 := rf.out 0
    have f1 := rf.out 1
    have f2 := rf.out 2
    have f3 := rf.out 3
    clear hf hRR2 hI9
    go_wp2_with fail
    go_region
    go_wp2_with fail
    have hH4 := hV9.out.hr.put4 (.string ⟨#[]⟩) (.slice none 0 0) (.slice none 0 0) (.slice none 0 0)
    have hB4 := hV9.out.bl.trans ((put4_writes w9 gr (.string ⟨#[]⟩) (.slice none 0 0) (.slice none 0 0) (.slice none 0 0)).below hV9.out.bl.size fun j hj => by have := hV9.out.r0; simp at hj; omega)
    refine ret_cell3 rfl rfl rfl (hH4.drewN 1) Try.underlying26 Try.sFunc ?_
    rw [hR9.out]
    exact ResPost.no w _ b 61 (hB4.trans (Below.refl _ _).drew)
   | none =>
    have hvt := (vis_first K body 0).2 hf
    rw [hvt]
    have hR9 : Hid (R = (⟨nm, ps, ls, listP K body⟩, 0, 0)) := Lib.hid (by rw [hRR2.out, hf, hK2.out]; rfl)
    have hI9' := Lib.hid hI9
    clear hvt hf hRR2 hI9
    obtain ⟨q0, q1, q2, q3, ql, qf⟩ := hV9.out.facts
    replace qf := Lib.hid qf
    have qf1 := qf.out 1
    have hcl := Lib.hid (cloneVar_any w9 A1 n1 c1 (ps.flatMap Vr.cells) (by rw [vr_len, hn1'.out]) (by omega) (hr1.out.keep fun x hx _ => hV9.out.bl.block x hx) (vr_one ps))
    go_wp2_with fail
    refine hcl.out.mono ?_
    rintro e wa ⟨⟨va, rfl, hoa⟩, hba⟩
    rw [hn1'.out] at hoa
    obtain ⟨A4, c4, rfl, hva⟩ := VrAt.new hoa (by rw [← hn1'.out]; exact hlen1) hv1.out
    rw [← hn1'.out] at hva ⊢
    have hVa := hV9.out.below hba
    have hIa := hI9'.out.below hba
    have hgp9 := hV9.out.hp.lt
    have hgr9 := Lib.hid hV9.out.hr.lt
    clear hcl hoa q0 q1 q2 q3 ql qf qf1
    obtain ⟨wb, hwb⟩ : ∃ x, x = wa.setCell ⟨gp, 1, none⟩ (.slice A4 n1 c4) := ⟨_, rfl⟩
    have hWb : Writes [some gp] wa wb := by rw [hwb]; exact Writes.store wa (by simp) _
    obtain ⟨q0, q1, q2, q3, ql, qf⟩ := hVa.facts
    replace qf := Lib.hid qf
    have qf1 := qf.out 1
    have hVb : Hid (RvW gp gr #[.string (strV nm), .slice A4 n1 c4, .slice A2 n2 c2, .slice A3 n3 c3] w wb) := Lib.hid (by have := hVa.put 1 (.slice A4 n1 c4); rw [← hwb] at this; exact this)
    have hIb := Lib.hid (hIa.wr hWb hgpm.out.1 hgpm.out.2)
    have hvb := Lib.hid (hva.wr1 hWb hgp9)
    have hfb := Lib.hid hwb.symm
    have hgp9' := Lib.hid hgp9
    clear hwb hWb hva hVa hIa hba hV9 hI9' hgp9
    go_wp2_with fail
    rw [hfb.out]
    clear q0 q1 q2 q3 ql qf qf1 hfb
    have hcl := Lib.hid (cloneVar_any wb A2 n2 c2 (ls.flatMap Vr.cells) (by rw [vr_len, hn2'.out]) (by omega) (hr2.out.keep fun x hx _ => hVb.out.bl.block x hx) (vr_one ls))
    refine hcl.out.mono ?_
    rintro e wc ⟨⟨vc2, rfl, hoc⟩, hbc⟩
    rw [hn2'.out] at hoc
    obtain ⟨A5, c5, rfl, hvc2⟩ := VrAt.new hoc (by rw [← hn2'.out]; exact hlen2) hv2.out
    rw [← hn2'.out] at hvc2 ⊢
    have hVc := hVb.out.below hbc
    have hIc := hIb.out.below hbc
    have hgpb := hVb.out.hp.lt
    have hgrb := Lib.hid hVb.out.hr.lt
    have hvc1 := hvb.out.keep fun x hx _ => hbc.block x hx
    obtain ⟨wd, hwd⟩ : ∃ x, x = wc.setCell ⟨gp, 2, none⟩ (.slice A5 n2 c5) := ⟨_, rfl⟩
    have hWd : Writes [some gp] wc wd := by rw [hwd]; exact Writes.store wc (by simp) _
    obtain ⟨q0, q1, q2, q3, ql, qf⟩ := hVc.facts
    replace qf := Lib.hid qf
    have qf2 := qf.out 2
    have hVd : Hid (RvW gp gr #[.string (strV nm), .slice A4 n1 c4, .slice A5 n2 c5, .slice A3 n3 c3] w wd) := Lib.hid (by have := hVc.put 2 (.slice A5 n2 c5); rw [← hwd] at this; exact this)
    have hId := Lib.hid (hIc.wr hWd hgpm.out.1 hgpm.out.2)
    have hvd1 := Lib.hid (hvc1.wr1 hWd hgp9'.out)
    have hvd2 := Lib.hid (hvc2.wr1 hWd hgpb)
    have hgpb' := Lib.hid hgpb
    have hfd := Lib.hid hwd.symm
    have qr : wc.cell? ⟨r, 0, none⟩ = some (.map (some m)) := hIc.hr.cell 0
    have qrl := hIc.hr.lt
    clear hcl hoc hwd hWd hvc1 hvc2 hVc hIc hbc hVb hIb hvb hgpb
    go_wp2_with fail
    rw [hfd.out]
    clear q0 q1 q2 q3 ql qf qf2 qr qrl hfd
    have hSd : SlAt wd (fun x => x < w.heap.size) body (.slice A3 n3 c3) := (hB'.out.mono (S' := fun x => x < w.heap.size) fun x hx _ => hx).keep fun x hx _ => hVd.out.bl.block x hx
    refine (rlist_any m K body.dep body (Nat.le_refl _) wd _ _ hId.out.km hSd).mono ?_
    rintro e we ⟨v', rfl, hSe, hbe⟩
    have hVe := hVd.out.below hbe
    have hgpd := hVd.out.hp.lt
    have hgrd := hVd.out.hr.lt
    have hp0 := hVd.out.p0
    have hr0 := hVd.out.r0
    obtain ⟨A6, c6, hv6⟩ := hSe.slice_
    obtain ⟨n6, hn6⟩ : ∃ y, y = (listP K body).len := ⟨_, rfl⟩
    rw [← hn6] at hv6
    subst hv6
    have hn6' := Lib.hid hn6
    obtain ⟨wf, hwf⟩ : ∃ x, x = we.setCell ⟨gp, 3, none⟩ (.slice A6 n6 c6) := ⟨_, rfl⟩
    have hWf : Writes [some gp] we wf := by rw [hwf]; exact Writes.store we (by simp) _
    have hSf : SlAt wf (fun x => x ≠ gr) (listP K body) (.slice A6 n6 c6) := by
     have h1 := hSe.keep fun x hx hS => hWf.block x hx (by simp; rcases hS with hS | hS <;> omega)
     exact h1.mono fun x _ hS => by rcases hS with hS | hS <;> omega
    obtain ⟨q0, q1, q2, q3, ql, qf⟩ := hVe.facts
    replace qf := Lib.hid qf
    have qf3 := qf.out 3
    have hVf : RvW gp gr #[.string (strV nm), .slice A4 n1 c4, .slice A5 n2 c5, .slice A6 n6 c6] w wf := by have := hVe.put 3 (.slice A6 n6 c6); rw [← hwf] at this; exact this
    have hv1f := (hvd1.out.keep fun x hx _ => hbe.block x hx).wr1 hWf hgp9'.out
    have hv2f := (hvd2.out.keep fun x hx _ => hbe.block x hx).wr1 hWf hgpb'.out
    have hZ := put4_writes wf gr (.string (strV nm)) (.slice A4 n1 c4) (.slice A5 n2 c5) (.slice A6 n6 c6)
    have hHz := Lib.hid (hVf.hr.put4 (.string (strV nm)) (.slice A4 n1 c4) (.slice A5 n2 c5) (.slice A6 n6 c6))
    have hBz := hVf.bl.trans (hZ.below hVf.bl.size fun j hj => by simp at hj; omega)
    have hend : Hid (ResPost R w (.returned (.tuple #[.agg #[.string (strV nm), .slice A4 n1 c4, .slice A5 n2 c5, .slice A6 n6 c6], .int .i64 0, .int .i64 0])) ((((wf.setCell ⟨gr, 0, none⟩ (.string (strV nm))).setCell ⟨gr, 1, none⟩ (.slice A4 n1 c4)).setCell ⟨gr, 2, none⟩ (.slice A5 n2 c5)).setCell ⟨gr, 3, none⟩ (.slice A6 n6 c6))) := Lib.hid (by
     rw [hR9.out]
     refine ⟨_, _, _, rfl, ⟨hnm'.out, (hv1f.wr1 hZ hgr9.out).mono fun _ _ _ => trivial, (hv2f.wr1 hZ hgrb.out).mono fun _ _ _ => trivial, ?_⟩, hBz⟩
     exact (hSf.keep fun x hx hS => hZ.block x hx (by simp; exact hS)).mono fun _ _ _ => trivial)
    have hff := Lib.hid hwf.symm
    obtain ⟨p0, p1, p2, p3, pl, pf⟩ := hVf.facts
    obtain ⟨r0, r1, r2, r3, rl, rf⟩ := hVf.factsR
    replace rf := Lib.hid rf
    have f0 := rf.out 0
    have f1 := rf.out 1
    have f2 := rf.out 2
    have f3 := rf.out 3
    clear pf hwf hWf hSf hVf hv1f hv2f hZ hBz hSe hbe hVe hn6 hvd1 hvd2 hVd hId
    go_upto_region 19 with (fail)
    rw [hff.out]
    clear q0 q1 q2 q3 ql qf qf3
    go_wp2_with fail
    exact ret_cell3 rfl rfl rfl hHz.out Try.underlying26 Try.sFunc hend.out
theorem resolve_any (w : World) (f : Fnc) (unit : S) (A1 A2 A3 : Option Addr) (c1 c2 c3 : Nat) (hF : FnAt w Evr f (.slice A1 f.ps.length c1) (.slice A2 f.ls.length c2) (.slice A3 f.body.len c3)) :
  Calls Try.prog 6 #[.agg (fnC f.nm A1 A2 A3 f.ps.length c1 f.ls.length c2 f.body.len c3), .string (strV unit)] w (ResPost (resolveP f unit) w) := by
 by_cases h : f.nm ≠ unit ∨ unit = globS
 ·have := resolve_unit w f unit h A1 A2 A3 f.ps.length f.ls.length f.body.len c1 c2 c3
  unfold resolveP
  rw [if_pos h]
  exact this
 ·have h1 : f.nm = unit := Classical.byContradiction fun e => h (.inl e)
  subst h1
  exact resolve_go w f (fun e => h (.inr e)) A1 A2 A3 c1 c2 c3 hF
end Go.Proofs.Ytpndglghpojjkaa
/- DERIVED: THE SHELF's CONTRACTS AT THIS DUMP, IN PLAIN WORDS (tools/lay-plain.mjs out of 'TryIterN.lean', which tools/lay-shelf.mjs wrote): THE SAME DECLARATIONS UNDER THE SAME NAMES: 'import', 'namespace', 'open', 'def', 'theorem' AND NOTHING ELSE: no command of the shelf's: FOR A HAND-IN. Each laying: the table of numbers ('.._ren') and one theorem, a field a fact of the dump's own or the kernel's comparison; each contract: ONE APPLICATION. -/
namespace Go.Proofs
open Go.Shelf
def Try.keysB_ren : Go.Shelf.Ren := ⟨fun | 7 => 57 | 10 => 77 | n => n, fun | 23 => 73 | 26 => 9 | 3 => 102 | 28 => 100 | 0 => 0 | 27 => 99 | 33 => 33 | 4 => 4 | n => n, fun | n => n⟩
theorem Try.keysB : Go.Proofs.SlLaysZ.n7 Try.prog Try.keysB_ren := {
 mixed := by kernel_rfl
 f7 := ⟨Try.f57.name, by decide, Try.func57.trans (congrArg some (by kernel_rfl))⟩
 f10 := ⟨Try.f77.name, by decide, Try.func77.trans (congrArg some (by kernel_rfl))⟩
 t0 := Try.underlying0
 a0 := Try.isAgg0
 z0 := Try.sizeOf0
 v0 := Try.zeroValue0
 t4 := Try.underlying4
 a4 := Try.isAgg4
 z4 := Try.sizeOf4
 v4 := Try.zeroValue4
 t23 := Try.underlying73
 a23 := Try.isAgg73
 z23 := Try.sizeOf73
 v23 := Try.zeroValue73
 t26 := Try.underlying9
 a26 := Try.isAgg9
 z26 := Try.sizeOf9
 v26 := Try.zeroValue9
 t27 := Try.underlying99
 a27 := Try.isAgg99
 z27 := Try.sizeOf99
 v27 := Try.zeroValue99
 t28 := Try.underlying100
 a28 := Try.isAgg100
 z28 := Try.sizeOf100
 v28 := Try.zeroValue100
 t33 := Try.underlying33
 a33 := Try.isAgg33
 z33 := Try.sizeOf33
 v33 := Try.zeroValue33 }
def Try.sortedB_ren : Go.Shelf.Ren := ⟨fun | 6 => 56 | 8 => 76 | 9 => 44 | 11 => 91 | 13 => 69 | 12 => 68 | 23 => 89 | 24 => 90 | 14 => 80 | 15 => 81 | 16 => 82 | 17 => 83 | 18 => 84 | 19 => 85 | 20 => 86 | 21 => 87 | 22 => 88 | 25 => 94 | 26 => 95 | 27 => 96 | 28 => 97 | 29 => 98 | 30 => 99 | 31 => 101 | n => n, fun | 26 => 9 | 28 => 100 | 24 => 40 | 0 => 0 | 3 => 3 | 37 => 115 | 48 => 133 | 50 => 85 | 4 => 4 | 40 => 125 | 39 => 124 | 45 => 130 | 5 => 5 | 9 => 9 | 51 => 136 | 55 => 140 | 57 => 143 | 58 => 144 | 33 => 33 | n => n, fun | n => n⟩
theorem Try.sortedB : Go.Proofs.SlLaysZ.n6 Try.prog Try.sortedB_ren := {
 mixed := by kernel_rfl
 f6 := ⟨Try.f56.name, by decide, Try.func56.trans (congrArg some (by kernel_rfl))⟩
 f8 := ⟨Try.f76.name, by decide, Try.func76.trans (congrArg some (by kernel_rfl))⟩
 f11 := ⟨Try.f91.name, by decide, Try.func91.trans (congrArg some (by kernel_rfl))⟩
 t0 := Try.underlying0
 a0 := Try.isAgg0
 z0 := Try.sizeOf0
 v0 := Try.zeroValue0
 t24 := Try.underlying40
 a24 := Try.isAgg40
 z24 := Try.sizeOf40
 v24 := Try.zeroValue40
 t26 := Try.underlying9
 a26 := Try.isAgg9
 z26 := Try.sizeOf9
 v26 := Try.zeroValue9
 t28 := Try.underlying100
 a28 := Try.isAgg100
 z28 := Try.sizeOf100
 v28 := Try.zeroValue100
 i26 := by kernel_rfl }
def Try.sortB_ren : Go.Shelf.Ren := ⟨fun | 6 => 44 | 8 => 69 | 9 => 68 | 19 => 89 | 20 => 90 | 21 => 80 | 22 => 81 | 23 => 82 | 24 => 83 | 25 => 84 | 26 => 85 | 27 => 86 | 28 => 87 | 29 => 88 | 36 => 94 | 31 => 95 | 32 => 96 | 37 => 97 | 38 => 98 | 39 => 99 | 41 => 101 | n => n, fun | 27 => 40 | 29 => 9 | 3 => 3 | 32 => 115 | 26 => 40 | 0 => 0 | 44 => 133 | 46 => 85 | 4 => 4 | 36 => 125 | 35 => 124 | 41 => 130 | 5 => 5 | 9 => 9 | 53 => 136 | 57 => 140 | 63 => 143 | 64 => 144 | n => n, fun | n => n⟩
theorem Try.sortB : Go.Proofs.SlLaysM.n6 Try.prog Try.sortB_ren := {
 mixed := by kernel_rfl
 f6 := ⟨Try.f44.name, by decide, Try.func44.trans (congrArg some (by kernel_rfl))⟩
 f8 := Try.func69.trans (congrArg some (by kernel_rfl))
 f9 := ⟨Try.f68.name, by decide, Try.func68.trans (congrArg some (by kernel_rfl))⟩
 f19 := Try.func89.trans (congrArg some (by kernel_rfl))
 f20 := Try.func90.trans (congrArg some (by kernel_rfl))
 f21 := ⟨Try.f80.name, by decide, Try.func80.trans (congrArg some (by kernel_rfl))⟩
 f22 := ⟨Try.f81.name, by decide, Try.func81.trans (congrArg some (by kernel_rfl))⟩
 f23 := ⟨Try.f82.name, by decide, Try.func82.trans (congrArg some (by kernel_rfl))⟩
 f24 := ⟨Try.f83.name, by decide, Try.func83.trans (congrArg some (by kernel_rfl))⟩
 f25 := ⟨Try.f84.name, by decide, Try.func84.trans (congrArg some (by kernel_rfl))⟩
 f26 := ⟨Try.f85.name, by decide, Try.func85.trans (congrArg some (by kernel_rfl))⟩
 f27 := ⟨Try.f86.name, by decide, Try.func86.trans (congrArg some (by kernel_rfl))⟩
 f28 := ⟨Try.f87.name, by decide, Try.func87.trans (congrArg some (by kernel_rfl))⟩
 f29 := ⟨Try.f88.name, by decide, Try.func88.trans (congrArg some (by kernel_rfl))⟩
 f31 := Try.func95.trans (congrArg some (by kernel_rfl))
 f32 := Try.func96.trans (congrArg some (by kernel_rfl))
 f36 := ⟨Try.f94.name, by decide, Try.func94.trans (congrArg some (by kernel_rfl))⟩
 f37 := ⟨Try.f97.name, by decide, Try.func97.trans (congrArg some (by kernel_rfl))⟩
 f38 := ⟨Try.f98.name, by decide, Try.func98.trans (congrArg some (by kernel_rfl))⟩
 f39 := ⟨Try.f99.name, by decide, Try.func99.trans (congrArg some (by kernel_rfl))⟩
 f41 := ⟨Try.f101.name, by decide, Try.func101.trans (congrArg some (by kernel_rfl))⟩
 t0 := Try.underlying0
 a0 := Try.isAgg0
 z0 := Try.sizeOf0
 v0 := Try.zeroValue0
 t3 := Try.underlying3
 a3 := Try.isAgg3
 z3 := Try.sizeOf3
 v3 := Try.zeroValue3
 t4 := Try.underlying4
 a4 := Try.isAgg4
 z4 := Try.sizeOf4
 v4 := Try.zeroValue4
 t5 := Try.underlying5
 a5 := Try.isAgg5
 z5 := Try.sizeOf5
 v5 := Try.zeroValue5
 t9 := Try.underlying9
 a9 := Try.isAgg9
 z9 := Try.sizeOf9
 v9 := Try.zeroValue9
 t26 := Try.underlying40
 a26 := Try.isAgg40
 z26 := Try.sizeOf40
 v26 := Try.zeroValue40
 t27 := Try.underlying40
 a27 := Try.isAgg40
 z27 := Try.sizeOf40
 v27 := Try.zeroValue40
 t29 := Try.underlying9
 a29 := Try.isAgg9
 z29 := Try.sizeOf9
 v29 := Try.zeroValue9
 t32 := Try.underlying115
 a32 := Try.isAgg115
 z32 := Try.sizeOf115
 v32 := Try.zeroValue115
 t35 := Try.underlying124
 a35 := Try.isAgg124
 z35 := Try.sizeOf124
 v35 := Try.zeroValue124
 t36 := Try.underlying125
 a36 := Try.isAgg125
 z36 := Try.sizeOf125
 v36 := Try.zeroValue125
 t41 := Try.underlying130
 a41 := Try.isAgg130
 z41 := Try.sizeOf130
 v41 := Try.zeroValue130
 t44 := Try.underlying133
 a44 := Try.isAgg133
 z44 := Try.sizeOf133
 v44 := Try.zeroValue133
 t46 := Try.underlying85
 a46 := Try.isAgg85
 z46 := Try.sizeOf85
 v46 := Try.zeroValue85
 t53 := Try.underlying136
 a53 := Try.isAgg136
 z53 := Try.sizeOf136
 v53 := Try.zeroValue136
 t57 := Try.underlying140
 a57 := Try.isAgg140
 z57 := Try.sizeOf140
 v57 := Try.zeroValue140
 t63 := Try.underlying143
 a63 := Try.isAgg143
 z63 := Try.sizeOf143
 v63 := Try.zeroValue143
 t64 := Try.underlying144
 a64 := Try.isAgg144
 z64 := Try.sizeOf144
 v64 := Try.zeroValue144 }
end Go.Proofs
/- Sets of strings: their keys, sorted. What a collector finds. -/
namespace Go.Proofs.Ytpndglghpojjkaa
open Go.RowKit Go.Maps Go.Sort Go.Shelf

theorem Try.sortsB (m : Nat) : AnyZ.SortsIn Try.prog Try.sortedB_ren Fence.wide m :=
 ⟨fun blk off cap ss W hH hblk hsz => callsIn_wide.2 (AnyM.slices_Sort_string Try.sortB blk off cap ss W hH hblk hsz),
  fun p cap W => callsIn_wide.2 (AnyM.slices_Sort_string_none Try.sortB p cap W)⟩
/-- The keys of a map, rising. -/
def KeysL (f : ByteArray → Option Value) (ss : List (List UInt8)) : Prop := ss.Pairwise (· < ·) ∧ ∀ x, x ∈ ss ↔ f (strV x) ≠ none
theorem strV_list (x : List UInt8) : (strV x).data.toList = x := by simp [strV]
theorem SaysS.has {D : DataW Value} {f : ByteArray → Option Value} (h : SaysS D f) (x : List UInt8) : Maps.has D (.string x) = true ↔ f (strV x) ≠ none := by
 have := h (strV x)
 unfold keyS at this
 rw [strV_list] at this
 cases hf : f (strV x) with
 | none => rw [hf] at this; simp only at this; rw [this]; simp
 | some v => rw [hf] at this; simp only at this; rw [this.1]; simp
theorem keys_nodup {w : World} {m n : Nat} {D : DataW Value} (ho : w.ownsMap Try.prog 9 heldR m n D) : (strKeys D).Nodup ∧ ∀ x, x ∈ strKeys D ↔ Maps.has D (.string x) = true := by
 obtain ⟨es, hD, hpw, _⟩ := ho.entries Try.strKeyed
 obtain ⟨es', hD', hko⟩ := ho.keysOf
 obtain rfl : es = es' := by rw [hD] at hD'; simpa using hD'
 subst hD
 have hk : ∀ p ∈ es, ∃ x, p.1 = .string x := fun p hp => by obtain ⟨v, hv⟩ := hko p hp; obtain ⟨x, _, hx, _⟩ := Maps.keyOf_str Try.underlying9 hv; exact ⟨x, hx⟩
 constructor
 ·show (es.map fun p => strOf p.1).Nodup
  refine List.pairwise_map.2 (hpw.imp_of_mem fun {p q} hp' hq' hne e => hne ?_)
  obtain ⟨a, ha⟩ := hk p hp'
  obtain ⟨b, hb⟩ := hk q hq'
  rw [ha, hb] at e ⊢
  exact congrArg _ e
 ·intro x
  rw [has_eq, List.any_eq_true]
  show x ∈ es.map (fun p => strOf p.1) ↔ _
  rw [List.mem_map]
  constructor
  ·rintro ⟨p, hp', rfl⟩
   obtain ⟨a, ha⟩ := hk p hp'
   exact ⟨p, hp', by rw [ha]; simp [Lit.sameKey, strOf]⟩
  ·rintro ⟨p, hp', hs⟩
   obtain ⟨a, ha⟩ := hk p hp'
   rw [ha] at hs
   exact ⟨p, hp', by rw [ha]; simpa [Lit.sameKey, strOf] using hs⟩
/-- Sorted keys, each once. -/
theorem keysL_of {f : ByteArray → Option Value} {ss : List (List UInt8)} (hnd : ss.Nodup) (hm : ∀ x, x ∈ ss ↔ f (strV x) ≠ none) : KeysL f (ss.mergeSort leB) := by
 have hperm := List.mergeSort_perm ss leB
 refine ⟨?_, fun x => (hperm.mem_iff).trans (hm x)⟩
 have h1 : (ss.mergeSort leB).Pairwise (fun a b => leB a b = true) := List.pairwise_mergeSort (fun a b c h1 h2 => by simp only [leB, decide_eq_true_eq] at *; exact List.le_trans h1 h2) (fun a b => by simp only [leB, Bool.or_eq_true, decide_eq_true_eq]; exact List.le_total a b) ss
 have h2 : (ss.mergeSort leB).Nodup := hperm.nodup_iff.2 hnd
 exact (List.pairwise_and_iff.2 ⟨h1, h2⟩).imp fun {a b} ⟨h3, h4⟩ => by
  simp only [leB, decide_eq_true_eq] at h3
  rcases Decidable.em (a < b) with h5 | h5
  ·exact h5
  ·exact absurd (List.le_antisymm h3 h5) h4
theorem keyS_list (w : World) (mb : Nat) : Calls Try.prog 57 #[.map (some mb)] w fun e w' => e = .returned (.func (.func 77) #[] #[.pointer (some ⟨w.heap.size, 0, none⟩)]) ∧ w' = w.alloc (.cells #[.map (some mb)] 73) :=
 (callsIn_wide (n := 5)).1 (AnyZ.keys_in Try.keysB Fence.wide 5 trivial rfl (some mb) w)
set_option maxHeartbeats 1000000 in
theorem sortedS_any (w : World) (mb N : Nat) (f : ByteArray → Option Value) (h : SMap w mb N f) (hN : N ≤ 1000000) :
  Calls Try.prog 56 #[.func (.func 77) #[] #[.pointer (some ⟨w.heap.size, 0, none⟩)]] (w.alloc (.cells #[.map (some mb)] 73)) fun e w' =>
   (∃ v ks, e = .returned v ∧ KeysL f ks ∧ ks.length ≤ N ∧ w'.ownsRow w.heap.size 9 1 v ks.length (ks.map encStr)) ∧ Below w.heap.size w w' := by
 obtain ⟨nn, D0, hn, hown, hs⟩ := h
 have hbl := hown.lt
 have hsz := hown.size_le
 have hmax : Maps.size D0 ≤ maxLen := by unfold maxLen; omega
 have hbytes : Maps.size D0 * 16 ≤ 140737488355328 := by omega
 have hseq : SeqGives Fence.wide 2 Try.prog 77 #[.pointer (some ⟨w.heap.size, 0, none⟩)] encStr (fun ss => ss.Perm (strKeys D0)) (Maps.size D0) (w.alloc (.cells #[.map (some mb)] 73)) :=
  AnyZ.keys_gives (ρ := Try.keysB_ren) { Try.keysB with } Fence.wide _ trivial rfl (by omega) w.heap.size mb nn D0 _ (by simp) (by simp) (by
   obtain ⟨es, clock, hb, Ft, hs, hD⟩ := hown
   exact ⟨es, clock, (Below.heap_alloc _ _ mb hbl).trans hb, Ft, hs, hD⟩)
 have cS := AnyZ.sorted_in Try.sortedB Fence.wide 5 trivial trivial trivial trivial rfl (by omega) (Try.sortsB _) (enters_of Try.func44 (by kernel_rfl) rfl) 77 #[.pointer (some ⟨w.heap.size, 0, none⟩)] trivial (enters_of Try.func77 (by kernel_rfl) rfl) _ _ hmax hbytes _ hseq
 refine ((callsIn_wide (n := 5)).1 cS).mono ?_
 rintro e w' ⟨v, ss, rfl, hS, hrow, _, hb⟩
 obtain ⟨k1, k2⟩ := keys_nodup hown
 have hsz2 : (w.alloc (.cells #[.map (some mb)] 73)).heap.size = w.heap.size + 1 := by simp
 have hlen : ss.length = Maps.size D0 := by
  rw [hS.length_eq]
  obtain ⟨es, hD, _⟩ := hown.keysOf
  rw [hD]
  simp [strKeys, Maps.size]
 refine ⟨⟨v, ss.mergeSort leB, rfl, keysL_of (hS.nodup_iff.2 k1) (fun x => (hS.mem_iff.trans (k2 x)).trans (hs.has x)), ?_, ?_⟩, (below_new w _).trans (hb.mono (by rw [hsz2]; omega))⟩
 ·rw [List.length_mergeSort]; omega
 ·rw [List.length_mergeSort]
  have hB : w.heap.size ≤ (w.alloc (.cells #[.map (some mb)] 73)).heap.size := by rw [hsz2]; omega
  exact own_base hrow hB
/-- What a set of strings holds. -/
def setF (s : List S) : ByteArray → Option Value := fun k => if k.data.toList ∈ s then some (.agg #[]) else none
theorem setF_snoc (s : List S) (x : S) : (fun j => if j = strV x then some (Value.agg #[]) else setF s j) = setF (s ++ [x]) := by
 funext j
 unfold setF
 by_cases h : j = strV x
 ·rw [if_pos h, if_pos (by rw [h, strV_list]; simp)]
 ·rw [if_neg h]
  have h2 : j.data.toList ≠ x := fun e => h (by
   subst e
   cases j
   simp [strV])
  by_cases h3 : j.data.toList ∈ s
  ·rw [if_pos h3, if_pos (List.mem_append_left _ h3)]
  ·rw [if_neg h3, if_neg (by simp [h3, h2])]
theorem keys_canon {s ss : List S} (h : KeysL (setF s) ss) : ss = canon s := by
 refine (canon_of h.1 fun x => ?_).symm
 rw [h.2 x]
 unfold setF
 rw [strV_list]
 by_cases hx : x ∈ s <;> simp [hx]
end Go.Proofs.Ytpndglghpojjkaa
/- What a function's text tells has the document's shape: names stand alone, tests for null too, arguments only at calls. No program in sight. -/
namespace Go.Proofs.Ytpndglghpojjkaa
section
variable {C : PC}
theorem unF_wf {sum un : PS → Ex × PS} (hs : ∀ s, WfE (sum s).1) (hu : ∀ s, WfE (un s).1) (s : PS) : WfE (unF C sum un s).1 := by
 unfold unF
 split
 ·trivial
 ·split
  ·trivial
  ·split
   ·split
    ·exact ⟨fun h => absurd h (by decide), hu _, trivial⟩
    ·trivial
   ·split
    ·split
     ·exact hs _
     ·trivial
    ·split
     ·exact ⟨fun h => absurd h (by decide), trivial, trivial⟩
     ·split
      ·exact ⟨fun _ => ⟨rfl, rfl⟩, trivial, trivial⟩
      ·trivial
theorem prodK_one (s : PS) : prodK C s ≠ 1 := by
 unfold prodK
 repeat' split
 all_goals decide
theorem sumK_one (s : PS) : sumK C s ≠ 1 := by
 unfold sumK
 repeat' split
 all_goals decide
theorem moreL_wf {kf : PS → Nat} {part : PS → Ex × PS} (hk : ∀ s, kf s ≠ 1) (hp : ∀ s, WfE (part s).1) : ∀ (f : Nat) (a : Ex) (s : PS), WfE a → WfE (moreL kf part f a s).1
 | 0, _, _, h => h
 | f + 1, a, s, h => by
  unfold moreL
  split
  ·exact h
  ·split
   ·exact h
   ·exact moreL_wf hk hp f _ _ ⟨fun h1 => absurd h1 (hk _), h, hp _⟩
theorem prodF_wf {un : PS → Ex × PS} (hu : ∀ s, WfE (un s).1) (s : PS) : WfE (prodF C un s).1 := moreL_wf prodK_one hu _ _ _ (hu s)
theorem sumF_wf {un : PS → Ex × PS} (hu : ∀ s, WfE (un s).1) (s : PS) : WfE (sumF C un s).1 := moreL_wf sumK_one (prodF_wf hu) _ _ _ (prodF_wf hu s)
theorem unD_wf : ∀ (d : Nat) (s : PS), WfE (unD C d s).1
 | 0, s => unF_wf (sum := fun s => (.nil, s)) (un := fun s => (.nil, s)) (fun _ => trivial) (fun _ => trivial) s
 | d + 1, s => unF_wf (sumF_wf (unD_wf d)) (unD_wf d) s
theorem sumD_wf (d : Nat) (s : PS) : WfE (sumD C d s).1 := sumF_wf (unD_wf d) s
theorem cmpF_wf {sum : PS → Ex × PS} (hs : ∀ s, WfE (sum s).1) {a : Ex} (ha : WfE a) : ∀ (l : List (List UInt8)) (k : Nat) (s : PS), k + l.length ≤ 9 → WfC (cmpF C sum a k l s).1
 | [], _, _, _ => trivial
 | t :: r, k, s, h => by
  unfold cmpF
  simp only [List.length_cons] at h
  split
  ·exact ⟨fun e => by omega, ha, hs _, trivial, trivial⟩
  ·exact cmpF_wf hs ha r (k + 1) s (by omega)
theorem notF_wf {sum : PS → Ex × PS} {cond not_ : PS → Cn × PS} (hs : ∀ s, WfE (sum s).1) (hc : ∀ s, WfC (cond s).1) (hn : ∀ s, WfC (not_ s).1) (s : PS) : WfC (notF C sum cond not_ s).1 := by
 unfold notF
 split
 ·split
  ·exact ⟨fun h => absurd h (by decide), trivial, trivial, hn _, trivial⟩
  ·trivial
 ·split
  ·split
   ·exact hc _
   ·trivial
  ·split
   ·simp only
    split
    ·exact ⟨fun h => absurd h (by decide), trivial, trivial, ⟨fun _ => ⟨rfl, rfl, rfl, rfl⟩, trivial, trivial, trivial, trivial⟩, trivial⟩
    ·exact ⟨fun _ => ⟨rfl, rfl, rfl, rfl⟩, trivial, trivial, trivial, trivial⟩
   ·exact cmpF_wf hs (hs s) _ _ _ (by decide)
theorem joinL_wf {t : List UInt8} {k : Nat} (hk : k ≠ 9) {part : PS → Cn × PS} (hp : ∀ s, WfC (part s).1) : ∀ (f : Nat) (c : Cn) (s : PS), WfC c → WfC (joinL C t k part f c s).1
 | 0, _, _, h => h
 | f + 1, c, s, h => by
  unfold joinL
  split
  ·exact joinL_wf hk hp f _ _ ⟨fun h1 => absurd h1 hk, trivial, trivial, h, hp _⟩
  ·exact h
theorem andF_wf {n : PS → Cn × PS} (hn : ∀ s, WfC (n s).1) (s : PS) : WfC (andF C n s).1 := joinL_wf (by decide) hn _ _ _ (hn s)
theorem condF_wf {n : PS → Cn × PS} (hn : ∀ s, WfC (n s).1) (s : PS) : WfC (condF C n s).1 := joinL_wf (by decide) (andF_wf hn) _ _ _ (andF_wf hn s)
theorem notD_wf : ∀ (d : Nat) (s : PS), WfC (notD C d s).1
 | 0, s => notF_wf (cond := fun s => (.nil, s)) (not_ := fun s => (.nil, s)) (sumD_wf 0) (fun _ => trivial) (fun _ => trivial) s
 | d + 1, s => notF_wf (sumD_wf (d + 1)) (condF_wf (notD_wf d)) (notD_wf d) s
theorem condD_wf (d : Nat) (s : PS) : WfC (condD C d s).1 := condF_wf (notD_wf d) s
def WfA (a : Ag) : Prop := WfE a.e ∧ (a.ptr = true → a.e = Ex.nil)
theorem argsL_wf {sum : PS → Ex × PS} (hs : ∀ s, WfE (sum s).1) : ∀ (f : Nat) (l : List Ag) (s : PS), (∀ a ∈ l, WfA a) → ∀ a ∈ (argsL C sum f l s).1, WfA a
 | 0, _, _, _ => by intro a h; cases h
 | f + 1, l, s, hl => by
  have hl2 : ∀ a ∈ l ++ [⟨false, [], (sum s).1⟩], WfA a := by
   intro a h
   rcases List.mem_append.1 h with h | h
   ·exact hl a h
   ·simp only [List.mem_singleton] at h
    subst h
    exact ⟨hs s, fun h => by cases h⟩
  unfold argsL
  split
  ·intro a h; cases h
  ·split
   ·exact hl2
   ·exact argsL_wf hs f _ _ hl2
theorem argsF_wf {sum : PS → Ex × PS} (hs : ∀ s, WfE (sum s).1) (s : PS) : ∀ a ∈ (argsF C sum s).1, WfA a := by
 unfold argsF
 split
 ·intro a h; cases h
 ·exact argsL_wf hs _ _ _ (by intro a h; cases h)
theorem WfH.of {h : Hd} (e : WfE h.e) (f : WfE h.f) (c : WfC h.c) (a : ∀ a ∈ h.args, WfA a) (hk : h.k ≤ 12) (h8 : h.k ≠ 8 → h.args = []) (h0 : h.k = 0 → h.f = .nil ∧ h.c = .nil) (h2 : h.k ≠ 2) : WfH h .nil .nil :=
 ⟨e, f, c, a, h8, fun x => ⟨(h0 x).1, (h0 x).2, rfl, rfl⟩, fun x => absurd x h2, hk⟩
theorem no_args {P : Ag → Prop} : ∀ a ∈ ([] : List Ag), P a := by intro a h; cases h
theorem valueF_wf {sum : PS → Ex × PS} (hs : ∀ s, WfE (sum s).1) (n : Nat) (x : List UInt8) (s : PS) : WfH (valueF C sum { hd0 n with x := x } s).1 .nil .nil := by
 unfold valueF hd0
 split
 ·exact WfH.of trivial trivial trivial no_args (by simp) (fun _ => rfl) (fun h => by simp at h) (by simp)
 ·split
  ·exact WfH.of trivial trivial trivial no_args (by simp) (fun _ => rfl) (fun h => by simp at h) (by simp)
  ·split
   ·exact WfH.of trivial trivial trivial no_args (by simp) (fun _ => rfl) (fun h => by simp at h) (by simp)
   ·split
    ·exact WfH.of (hs _) trivial trivial no_args (by simp) (fun _ => rfl) (fun h => by simp at h) (by simp)
    ·split
     ·exact WfH.of trivial trivial trivial (argsF_wf hs _) (by simp) (fun h => absurd rfl h) (fun h => by simp at h) (by simp)
     ·exact WfH.of (hs _) trivial trivial no_args (by simp) (fun _ => rfl) (fun _ => ⟨rfl, rfl⟩) (by simp)
theorem plainF_wf {sum : PS → Ex × PS} {cond : PS → Cn × PS} (hs : ∀ s, WfE (sum s).1) (hc : ∀ s, WfC (cond s).1) (n : Nat) (s : PS) : WfH (plainF C sum cond n s).1 .nil .nil := by
 unfold plainF
 split
 ·exact WfH.of (hs _) trivial trivial no_args (by simp) (fun _ => rfl) (fun h => by simp at h) (by simp)
 ·split
  ·exact WfH.of trivial trivial (hc _) no_args (by simp) (fun _ => rfl) (fun h => by simp at h) (by simp)
  ·split
   ·exact WfH.of (hs _) trivial trivial no_args (by simp) (fun _ => rfl) (fun h => by simp at h) (by simp)
   ·split
    ·exact WfH.of trivial trivial trivial (argsF_wf hs _) (by simp) (fun h => absurd rfl h) (fun h => by simp at h) (by simp)
    ·split
     ·exact WfH.of (hs _) (hs _) trivial no_args (by simp) (fun _ => rfl) (fun h => by simp at h) (by simp)
     ·exact valueF_wf hs _ _ _
def WfT (x : Hd × Sl × Sl) : Prop := WfH x.1 x.2.1 x.2.2 ∧ WfS x.2.1 ∧ WfS x.2.2
theorem stmtF_wf {sum : PS → Ex × PS} {cond : PS → Cn × PS} {block : PS → Sl × PS} (hs : ∀ s, WfE (sum s).1) (hc : ∀ s, WfC (cond s).1) (hb : ∀ s, WfS (block s).1) (s : PS) : WfT (stmtF C sum cond block s).1 := by
 have key : ∀ (k n : Nat) (c : Cn) (t e : Sl), (k = 10 ∨ k = 11) → WfC c → WfH { hd0 n with k := k, c := c } t e := by
  intro k n c t e hk hc
  refine ⟨trivial, trivial, hc, no_args, fun _ => rfl, fun h => ?_, fun h => ?_, ?_⟩
  all_goals simp only at *
  all_goals omega
 unfold stmtF
 split
 ·exact ⟨WfH.of trivial trivial trivial no_args (by simp [hd0]) (fun _ => rfl) (fun _ => ⟨rfl, rfl⟩) (by simp [hd0]), trivial, trivial⟩
 ·split
  ·split
   ·exact ⟨key _ _ _ _ _ (.inl rfl) (hc _), hb _, hb _⟩
   ·exact ⟨key _ _ _ _ _ (.inl rfl) (hc _), hb _, trivial⟩
  ·split
   ·exact ⟨key _ _ _ _ _ (.inr rfl) (hc _), hb _, trivial⟩
   ·exact ⟨plainF_wf hs hc _ _, trivial, trivial⟩
theorem snoc_wf : ∀ {l : Sl} {h : Hd} {t e : Sl}, WfS l → WfT (h, t, e) → WfS (l.snoc h t e)
 | .nil, _, _, _, _, hx => ⟨hx.1, hx.2.1, hx.2.2, trivial⟩
 | .cons _ _ _ _, _, _, _, hl, hx => ⟨hl.1, hl.2.1, hl.2.2.1, snoc_wf hl.2.2.2 hx⟩
theorem stmtsL_wf {stmt : PS → (Hd × Sl × Sl) × PS} (hs : ∀ s, WfT (stmt s).1) : ∀ (f : Nat) (l : Sl) (s : PS), WfS l → WfS (stmtsL C stmt f l s).1
 | 0, _, _, h => h
 | f + 1, l, s, h => by
  unfold stmtsL
  split
  ·exact h
  ·split
   ·exact h
   ·split
    ·trivial
    ·exact stmtsL_wf hs f _ _ (snoc_wf h (hs s))
theorem stmtsF_wf {stmt : PS → (Hd × Sl × Sl) × PS} (hs : ∀ s, WfT (stmt s).1) (s : PS) : WfS (stmtsF C stmt s).1 := stmtsL_wf hs _ _ _ trivial
theorem blockF_wf {stmts : PS → Sl × PS} (hs : ∀ s, WfS (stmts s).1) (s : PS) : WfS (blockF C stmts s).1 := by
 unfold blockF
 split
 ·split
  ·exact hs _
  ·trivial
 ·trivial
theorem stmtD_wf : ∀ (d : Nat) (s : PS), WfT (stmtD C d s).1
 | 0, s => stmtF_wf (sumD_wf 0) (condD_wf 0) (blockF_wf (stmts := fun s => (.nil, s)) fun _ => trivial) s
 | d + 1, s => stmtF_wf (sumD_wf (d + 1)) (condD_wf (d + 1)) (blockF_wf (stmtsF_wf (stmtD_wf d))) s
theorem stmtsD_wf (d : Nat) (s : PS) : WfS (stmtsD C d s).1 := stmtsF_wf (stmtD_wf d) s
theorem bodyF_wf : WfS (bodyF C).1 := by
 unfold bodyF
 generalize (39 : Nat) = d
 exact stmtsD_wf d _
end
/-- A function whose body has the document's shape. -/
structure WfFn (f : Fnc) : Prop where
 body : WfS f.body
theorem WfFn.none_ : WfFn Fnc.none := ⟨trivial⟩
theorem funcP_wf (C : PC) : WfFn (funcP C).1 := by
 have hb := bodyF_wf (C := C)
 unfold funcP
 generalize bodyF C = r at hb
 generalize restF C r.2 = s
 split
 ·exact WfFn.none_
 ·exact ⟨hb⟩
/-- What a function's text tells has the document's shape. -/
theorem funcF_wf (l : List UInt8) : WfFn (funcF l).1 := by
 unfold funcF
 generalize lexF l = x
 split
 ·exact WfFn.none_
 ·exact funcP_wf _
end Go.Proofs.Ytpndglghpojjkaa
/- Which names statements refer to, plainly: as the program collects them, as the document adds them: the same for what is resolved (P9.2). No program in sight. -/
namespace Go.Proofs.Ytpndglghpojjkaa

/-- The names of an expression, of a condition's expressions, of arguments, in order. -/
def exL : Ex → List S
 | .nil => []
 | .mk k _ nm a b => (if k = 1 then [nm] else []) ++ (exL a ++ exL b)
def cnL : Cn → List S
 | .nil => []
 | .mk _ a b p q _ => exL a ++ (exL b ++ (cnL p ++ cnL q))
def agR (l : List Ag) : List S := l.flatMap fun a => exL a.e
def agP (l : List Ag) : List S := l.flatMap fun a => if a.ptr then [] else exL a.e
/-- What each statement tells, in order. -/
def each (d : Hd → List S) : Sl → List S
 | .nil => []
 | .cons h t e r => d h ++ (each d t ++ (each d e ++ each d r))
/-- Each statement is such. -/
def allH (p : Hd → Prop) : Sl → Prop
 | .nil => True
 | .cons h t e r => p h ∧ allH p t ∧ allH p e ∧ allH p r
theorem allH.imp {p q : Hd → Prop} (h : ∀ y, p y → q y) : ∀ {l : Sl}, allH p l → allH q l
 | .nil, _ => trivial
 | .cons _ _ _ _, ⟨h1, h2, h3, h4⟩ => ⟨h _ h1, h2.imp h, h3.imp h, h4.imp h⟩
theorem allH.and {p q : Hd → Prop} : ∀ {l : Sl}, allH p l → allH q l → allH (fun y => p y ∧ q y) l
 | .nil, _, _ => trivial
 | .cons _ _ _ _, ⟨h1, h2, h3, h4⟩, ⟨g1, g2, g3, g4⟩ => ⟨⟨h1, g1⟩, h2.and g2, h3.and g3, h4.and g4⟩
section
variable (K : List UInt8 → Nat)
def ownP (h : Hd) : List S := if h.k = 0 ∨ h.k = 4 ∨ h.k = 6 then [h.x] else if h.k = 8 then (if h.x = [] then [] else [h.x]) else if h.k = 1 then [h.y] else []
def hdP (h : Hd) : List S := (exL h.e ++ (exL h.f ++ (cnL h.c ++ (agP h.args ++ ownP h)))).filter fun x => K x == 0
def calH (h : Hd) : List S := if h.k = 8 then [h.y] else []
def globs (d : Hd → List S) (h : Hd) : List S := (d h).filter fun x => K x == 0
end
/-- A statement whose names are no empty texts. -/
structure NeH (h : Hd) : Prop where
 e : ∀ x ∈ exL h.e, x ≠ []
 f : ∀ x ∈ exL h.f, x ≠ []
 c : ∀ x ∈ cnL h.c, x ≠ []
 a : ∀ x ∈ agR h.args, x ≠ []
 x : h.k = 0 ∨ h.k = 4 ∨ h.k = 6 → h.x ≠ []
 y : h.k = 1 → h.y ≠ []
 n : h.k ≠ 8 → h.args = []
 p : ∀ a ∈ h.args, a.ptr = true → a.e = Ex.nil
end Go.Proofs.Ytpndglghpojjkaa
/- Package names: a visitor's walk over expressions, where the function value may be handed so many names at most. -/
namespace Go.Proofs.Ytpndglghpojjkaa
open Go.RowKit Go.Deep

/-- A function value that is handed names, at most as many as bud says: it turns blocks of M alone. -/
structure SnkB (k : Nat) (first cap : Array Value) (M : List (Option Nat)) {σ : Type} (I : σ → World → Prop) (f : σ → List UInt8 → σ) (bud : σ → Nat) : Prop where
 ent : ∀ args w, (callFunc k args).run Try.prog w = .ok (.enter k args) w
 call : ∀ s x w, x.length ≤ 4096 → 0 < bud s → I s w → Calls Try.prog k (first ++ #[.string (strV x)] ++ cap) w fun e w' => e = .returned (.tuple #[]) ∧ I (f s x) w' ∧ Writes M w w'
 keep : ∀ s w w', I s w → Below w.heap.size w w' → I s w'
 low : ∀ s w g, I s w → some g ∈ M → g < w.heap.size
 step : ∀ s x, bud s ≤ bud (f s x) + 1
theorem exN_bud {σ : Type} {f : σ → List UInt8 → σ} {bud : σ → Nat} (h : ∀ s x, bud s ≤ bud (f s x) + 1) : ∀ (s : σ) (e : Ex), bud s ≤ bud (exN f s e) + (exL e).length
 | s, .nil => Nat.le_refl _
 | s, .mk k n x a b => by
  have h2 := exN_bud h (exN f (if k = 1 then f s x else s) a) b
  have h1 := exN_bud h (if k = 1 then f s x else s) a
  have h0 := h s x
  unfold exN exL
  by_cases hk : k = 1
  ·simp only [hk, if_true, List.length_append, List.length_singleton] at h1 h2 ⊢
   omega
  ·simp only [hk, if_false, List.length_append, List.length_nil] at h1 h2 ⊢
   omega
set_option maxRecDepth 100000 in
set_option maxHeartbeats 1000000 in
theorem exprB_any {k : Nat} {first cap : Array Value} {M : List (Option Nat)} {σ : Type} {I : σ → World → Prop} {f : σ → List UInt8 → σ} {bud : σ → Nat} (hk : SnkB k first cap M I f bud) (m : Option Nat) : ∀ (e : Ex) (w : World) (s : σ) (v : Value), ExAt w (NotOf M) e v → (exL e).length ≤ bud s → I s w →
  Calls Try.prog 58 #[.agg #[.map m], v, .func (.func k) first cap] w fun e' w' => e' = .returned (.tuple #[]) ∧ I (exN f s e) w' ∧ Writes M w w'
 | .nil, w, s, v, h, _, hI => by
  obtain rfl : v = .pointer none := h
  have hb := below_new w (.cells #[.map m] 63)
  have hI2 := Lib.hid (hk.keep s w _ hI hb)
  have hB := Lib.hid (Writes.of_below hb M)
  clear hb
  go_enter Try.func58, Try.ntmps58
  go_wp2_with fail
  refine bodyPost_ret (results_none rfl _ _ _) rfl ?_
  exact ⟨rfl, hI2.out, hB.out⟩
 | .mk kd n x a b, w, s, v, h, hbu, hI => by
  obtain ⟨g, va, vb, rfl, hS, hx, hk7, hH, ha, hb⟩ := h
  obtain ⟨w1, hw1⟩ : ∃ y, y = w.alloc (.cells #[.map m] 63) := ⟨_, rfl⟩
  obtain ⟨gv, hgv⟩ : ∃ y, y = w.heap.size := ⟨_, rfl⟩
  have hb1 : Below w.heap.size w w1 := by rw [hw1]; exact below_new w _
  have hv1 : Holds w1 gv 63 #[.map m] := by rw [hw1, hgv]; exact Holds.new w _ _
  have hH1 := (hH.below hb1 hH.lt)
  have q0 := hH1.cell 0
  have q2 := hH1.cell 2
  have q3 := hH1.cell 3
  have q4 := hH1.cell 4
  have qv := hv1.cell 0
  have ql := hH1.lt
  simp at q0 q2 q3 q4 qv
  have hw1' := Lib.hid hw1.symm
  clear hw1
  go_enter Try.func58, Try.ntmps58
  go_upto_region 1 with (fail)
  rw [← hgv, hw1'.out]
  have hgM : NotOf M gv := fun hm => by have := hk.low s w gv hI hm; omega
  have hI1 := Lib.hid (hk.keep s w _ hI hb1)
  have hW1 := Lib.hid (Writes.of_below hb1 M)
  have ha1 := Lib.hid (ha.below hb1)
  have hb2 := Lib.hid (hb.below hb1)
  have hv1' := Lib.hid hv1
  have hH1' := Lib.hid hH1
  clear hb1 hgv hI ha hb hv1 hH hH1 hw1'
  by_cases hk1 : kd = 1
  ·subst hk1
   have hq0 : Hid (0 < bud s) := Lib.hid (by have := hbu; unfold exL at this; rw [if_pos rfl] at this; simp at this; omega)
   have hqa : Hid ((exL a).length ≤ bud (f s x)) := Lib.hid (by have h1 := hbu; unfold exL at h1; rw [if_pos rfl] at h1; simp at h1; have h2 := hk.step s x; omega)
   have hqb : Hid ((exL b).length ≤ bud (exN f (f s x) a)) := Lib.hid (by have h1 := hbu; unfold exL at h1; rw [if_pos rfl] at h1; simp at h1; have h2 := hk.step s x; have h3 := exN_bud hk.step (f s x) a; omega)
   clear hbu
   have hx2 : Hid (exN f s (Ex.mk 1 n x a b) = exN f (exN f (f s x) a) b) := Lib.hid rfl
   have hent := hk.ent
   go_wp2_with fail
   refine (hk.call s x w1 hx hq0.out hI1.out).mono ?_
   rintro e w2 ⟨rfl, hI2, hW2'⟩
   have hH2' := hW2'.holds hH1'.out hS
   have hv2' := hW2'.holds hv1'.out hgM
   have q3 := hH2'.cell 3
   have qv := hv2'.cell 0
   have ql := hH2'.lt
   simp at q3 qv
   have hv2 := Lib.hid hv2'
   have hH2 := Lib.hid hH2'
   have ha2 := Lib.hid (ha1.out.wr hW2')
   have hb2 := Lib.hid (hb2.out.wr hW2')
   have hW2 := Lib.hid (hW1.out.trans hW2')
   replace hI2 := Lib.hid hI2
   clear hH2' hv2' hH1' hv1' ha1 hI1 hW1 hW2' q0 q2
   go_wp2_with fail
   go_still_tail 6, (by kernel_rfl)
   obtain ⟨w3, hw3⟩ : ∃ y, y = w2.drew := ⟨_, rfl⟩
   change wpList _ _ _ _ _ w2.drew
   rw [← hw3]
   have hd3 : Below w2.heap.size w2 w3 := by rw [hw3]; exact (Below.refl _ w2).drew
   have hH3 := Lib.hid (hH2.out.below hd3 hH2.out.lt)
   have hv3 := Lib.hid (hv2.out.below hd3 hv2.out.lt)
   have ha3 := Lib.hid (ha2.out.below hd3)
   have hb3 := Lib.hid (hb2.out.below hd3)
   have hI3 := Lib.hid (hk.keep _ w2 w3 hI2.out hd3)
   have hW3 := Lib.hid (hW2.out.trans (Writes.of_below hd3 M))
   clear hw3 hd3 q3 qv ql hH2 hv2 ha2 hb2 hI2 hW2
   go_wp2_with fail
   refine (exprB_any hk m a w3 _ va ha3.out hqa.out hI3.out).mono ?_
   rintro e w4 ⟨rfl, hI4, hW4⟩
   have hH4' := hW4.holds hH3.out hS
   have hv4' := hW4.holds hv3.out hgM
   have q4 := hH4'.cell 4
   have qv := hv4'.cell 0
   have ql := hH4'.lt
   simp at q4 qv
   have hv4 := Lib.hid hv4'
   have hH4 := Lib.hid hH4'
   have hb4 := Lib.hid (hb3.out.wr hW4)
   have hW4' := Lib.hid (hW3.out.trans hW4)
   replace hI4 := Lib.hid hI4
   clear hH4' hv4' hH3 hv3 ha3 hb3 hI3 hW3 hW4
   go_wp2_with fail
   go_still_tail 6, (by kernel_rfl)
   obtain ⟨w5, hw5⟩ : ∃ y, y = w4.drew := ⟨_, rfl⟩
   change wpList _ _ _ _ _ w4.drew
   rw [← hw5]
   have hd5 : Below w4.heap.size w4 w5 := by rw [hw5]; exact (Below.refl _ w4).drew
   have hb5 := Lib.hid (hb4.out.below hd5)
   have hI5 := Lib.hid (hk.keep _ w4 w5 hI4.out hd5)
   have hW5 := Lib.hid (hW4'.out.trans (Writes.of_below hd5 M))
   clear hw5 hd5 q4 qv ql hH4 hv4 hb4 hI4 hW4'
   go_wp2_with fail
   refine (exprB_any hk m b w5 _ vb hb5.out hqb.out hI5.out).mono ?_
   rintro e w6 ⟨rfl, hI6, hW6⟩
   have hI6 := Lib.hid hI6
   have hW6 := Lib.hid (hW5.out.trans hW6)
   go_wp2_with fail
   go_end0
   exact ⟨rfl, by rw [hx2.out]; exact hI6.out, hW6.out⟩
  ·have hk2 : ((kd : Int) == 1) = false := by simp; omega
   have hqa : Hid ((exL a).length ≤ bud s) := Lib.hid (by have h1 := hbu; unfold exL at h1; rw [if_neg hk1] at h1; simp at h1; omega)
   have hqb : Hid ((exL b).length ≤ bud (exN f s a)) := Lib.hid (by have h1 := hbu; unfold exL at h1; rw [if_neg hk1] at h1; simp at h1; have h3 := exN_bud hk.step s a; omega)
   clear hbu
   have hx2 : Hid (exN f s (Ex.mk kd n x a b) = exN f (exN f s a) b) := Lib.hid (by conv => lhs; unfold exN; rw [if_neg hk1])
   have hH2 := hH1'
   have hv2 := hv1'
   have ha2 := ha1
   have hI2 := hI1
   have hW2 := hW1
   clear hH1' hv1' ha1 hI1 hW1 hk1 q2
   go_wp2_with fail
   go_still_tail 6, (by kernel_rfl)
   obtain ⟨w3, hw3⟩ : ∃ y, y = w1.drew := ⟨_, rfl⟩
   change wpList _ _ _ _ _ w1.drew
   rw [← hw3]
   have hd3 : Below w1.heap.size w1 w3 := by rw [hw3]; exact (Below.refl _ w1).drew
   have hH3 := Lib.hid (hH2.out.below hd3 hH2.out.lt)
   have hv3 := Lib.hid (hv2.out.below hd3 hv2.out.lt)
   have ha3 := Lib.hid (ha2.out.below hd3)
   have hb3 := Lib.hid (hb2.out.below hd3)
   have hI3 := Lib.hid (hk.keep _ w1 w3 hI2.out hd3)
   have hW3 := Lib.hid (hW2.out.trans (Writes.of_below hd3 M))
   clear hw3 hd3 q0 q3 q4 qv ql hH2 hv2 ha2 hb2 hI2 hW2
   go_wp2_with fail
   refine (exprB_any hk m a w3 _ va ha3.out hqa.out hI3.out).mono ?_
   rintro e w4 ⟨rfl, hI4, hW4⟩
   have hH4' := hW4.holds hH3.out hS
   have hv4' := hW4.holds hv3.out hgM
   have q4 := hH4'.cell 4
   have qv := hv4'.cell 0
   have ql := hH4'.lt
   simp at q4 qv
   have hv4 := Lib.hid hv4'
   have hH4 := Lib.hid hH4'
   have hb4 := Lib.hid (hb3.out.wr hW4)
   have hW4' := Lib.hid (hW3.out.trans hW4)
   replace hI4 := Lib.hid hI4
   clear hH4' hv4' hH3 hv3 ha3 hb3 hI3 hW3 hW4
   go_wp2_with fail
   go_still_tail 6, (by kernel_rfl)
   obtain ⟨w5, hw5⟩ : ∃ y, y = w4.drew := ⟨_, rfl⟩
   change wpList _ _ _ _ _ w4.drew
   rw [← hw5]
   have hd5 : Below w4.heap.size w4 w5 := by rw [hw5]; exact (Below.refl _ w4).drew
   have hb5 := Lib.hid (hb4.out.below hd5)
   have hI5 := Lib.hid (hk.keep _ w4 w5 hI4.out hd5)
   have hW5 := Lib.hid (hW4'.out.trans (Writes.of_below hd5 M))
   clear hw5 hd5 q4 qv ql hH4 hv4 hb4 hI4 hW4'
   go_wp2_with fail
   refine (exprB_any hk m b w5 _ vb hb5.out hqb.out hI5.out).mono ?_
   rintro e w6 ⟨rfl, hI6, hW6⟩
   have hI6 := Lib.hid hI6
   have hW6 := Lib.hid (hW5.out.trans hW6)
   go_wp2_with fail
   go_end0
   exact ⟨rfl, by rw [hx2.out]; exact hI6.out, hW6.out⟩
end Go.Proofs.Ytpndglghpojjkaa
/- Package names: a visitor's walk over conditions, where the function value may be handed so many names at most. -/
namespace Go.Proofs.Ytpndglghpojjkaa
open Go.RowKit Go.Deep

theorem cnN_bud {σ : Type} {f f2 : σ → List UInt8 → σ} {bud : σ → Nat} (h : ∀ s x, bud s ≤ bud (f s x) + 1) (hf2 : ∀ s x, bud s ≤ bud (f2 s x)) : ∀ (s : σ) (e : Cn), bud s ≤ bud (cnN f f2 s e) + (cnL e).length
 | s, .nil => Nat.le_refl _
 | s, .mk k a b p q x => by
  have h0 : bud s ≤ bud (if k = 9 then f2 s x else s) := by
   split
   ·exact hf2 s x
   ·exact Nat.le_refl _
  have h1 := exN_bud h (if k = 9 then f2 s x else s) a
  have h2 := exN_bud h (exN f (if k = 9 then f2 s x else s) a) b
  have h3 := cnN_bud h hf2 (exN f (exN f (if k = 9 then f2 s x else s) a) b) p
  have h4 := cnN_bud h hf2 (cnN f f2 (exN f (exN f (if k = 9 then f2 s x else s) a) b) p) q
  unfold cnN cnL
  simp only [List.length_append]
  omega
set_option maxRecDepth 100000 in
set_option maxHeartbeats 2000000 in
theorem vcondB_any {k k2 : Nat} {first cap first2 cap2 : Array Value} {M : List (Option Nat)} {σ : Type} {I : σ → World → Prop} {f f2 : σ → List UInt8 → σ} {bud : σ → Nat} (hk : SnkB k first cap M I f bud) (hk2 : Snk k2 first2 cap2 M I f2) (hf2 : ∀ s x, bud s ≤ bud (f2 s x)) (m : Option Nat) : ∀ (e : Cn) (w : World) (s : σ) (v : Value), CnAt w (NotOf M) e v → (cnL e).length ≤ bud s → I s w →
  Calls Try.prog 59 #[.agg #[.map m], v, .func (.func k) first cap, .func (.func k2) first2 cap2] w fun e' w' => e' = .returned (.tuple #[]) ∧ I (cnN f f2 s e) w' ∧ Writes M w w'
 | .nil, w, s, v, h, _, hI => by
  obtain rfl : v = .pointer none := h
  have hb := below_new w (.cells #[.map m] 63)
  have hI2 := Lib.hid (hk.keep s w _ hI hb)
  have hB := Lib.hid (Writes.of_below hb M)
  clear hb
  go_enter Try.func59, Try.ntmps59
  go_wp2_with fail
  refine bodyPost_ret (results_none rfl _ _ _) rfl ?_
  exact ⟨rfl, hI2.out, hB.out⟩
 | .mk kd a b p q x, w, s, v, h, hbu, hI => by
  obtain ⟨g, va, vb, vp, vq, rfl, hS, hx, hk9, hH, ha, hb, hp, hq⟩ := h
  obtain ⟨w1, hw1⟩ : ∃ y, y = w.alloc (.cells #[.map m] 63) := ⟨_, rfl⟩
  obtain ⟨gv, hgv⟩ : ∃ y, y = w.heap.size := ⟨_, rfl⟩
  have hb1 : Below w.heap.size w w1 := by rw [hw1]; exact below_new w _
  have hv1 : Holds w1 gv 63 #[.map m] := by rw [hw1, hgv]; exact Holds.new w _ _
  have hH1 := (hH.below hb1 hH.lt)
  have r0 := hH1.cell 0
  have r5 := hH1.cell 5
  have r1 := hH1.cell 1
  have qv := hv1.cell 0
  have ql := hH1.lt
  simp at r0 r1 r5 qv
  have hw1' := Lib.hid hw1.symm
  clear hw1
  go_enter Try.func59, Try.ntmps59
  go_upto_region 1 with (fail)
  rw [← hgv, hw1'.out]
  have hgM : NotOf M gv := fun hm => by have := hk.low s w gv hI hm; omega
  have hgv' := Lib.hid hgv
  have hI1 := Lib.hid (hk.keep s w _ hI hb1)
  have hW1 := Lib.hid (Writes.of_below hb1 M)
  have ha1 := Lib.hid (ha.below hb1)
  have hb2 := Lib.hid (hb.below hb1)
  have hp1 := Lib.hid (hp.below hb1)
  have hq1 := Lib.hid (hq.below hb1)
  have hv1' := Lib.hid hv1
  have hH1' := Lib.hid hH1
  clear hb1 hgv hI ha hb hp hq hv1 hH hH1 hw1'
  by_cases hk1 : kd = 9
  ·subst hk1
   have hbu2 : (exL a).length + ((exL b).length + ((cnL p).length + (cnL q).length)) ≤ bud (f2 s x) := by have h1 := hbu; unfold cnL at h1; simp at h1; have h2 := hf2 s x; refine Nat.le_trans ?_ h2; exact h1
   have hqa : Hid ((exL a).length ≤ bud (f2 s x)) := Lib.hid (by omega)
   have hqb : Hid ((exL b).length ≤ bud (exN f (f2 s x) a)) := Lib.hid (by have h1 := exN_bud hk.step (f2 s x) a; omega)
   have hqp : Hid ((cnL p).length ≤ bud (exN f (exN f (f2 s x) a) b)) := Lib.hid (by have h1 := exN_bud hk.step (f2 s x) a; have h2 := exN_bud hk.step (exN f (f2 s x) a) b; omega)
   have hqq : Hid ((cnL q).length ≤ bud (cnN f f2 (exN f (exN f (f2 s x) a) b) p)) := Lib.hid (by have h1 := exN_bud hk.step (f2 s x) a; have h2 := exN_bud hk.step (exN f (f2 s x) a) b; have h3 := cnN_bud hk.step hf2 (exN f (exN f (f2 s x) a) b) p; omega)
   clear hbu2 hbu
   have hx2 : Hid (cnN f f2 s (Cn.mk 9 a b p q x) = cnN f f2 (cnN f f2 (exN f (exN f (f2 s x) a) b) p) q) := Lib.hid rfl
   have hent := hk2.ent
   go_wp2_with fail
   refine (hk2.call s x w1 hx hI1.out).mono ?_
   rintro e w2 ⟨rfl, hI2, hW2'⟩
   have hH2' := hW2'.holds hH1'.out hS
   have hv2' := hW2'.holds hv1'.out hgM
   clear r0 r1 r5 qv ql
   have r1 := hH2'.cell 1
   have qv := hv2'.cell 0
   have ql := hH2'.lt
   simp at r1 qv
   have hv2 := Lib.hid hv2'
   have hH2 := Lib.hid hH2'
   have ha2 := Lib.hid (ha1.out.wr hW2')
   have hb2 := Lib.hid (hb2.out.wr hW2')
   have hp2 := Lib.hid (hp1.out.wr hW2')
   have hq2 := Lib.hid (hq1.out.wr hW2')
   have hW2 := Lib.hid (hW1.out.trans hW2')
   replace hI2 := Lib.hid hI2
   clear hH2' hv2' hH1' hv1' ha1 hp1 hq1 hI1 hW1 hW2'
   go_wp2_with fail
   go_still_tail 6, (by kernel_rfl)
   obtain ⟨x2, hx20⟩ : ∃ y, y = w2.drew := ⟨_, rfl⟩
   change wpList _ _ _ _ _ w2.drew
   rw [← hx20]
   have hd : Below w2.heap.size w2 x2 := by rw [hx20]; exact (Below.refl _ w2).drew
   have hH3 := Lib.hid (hH2.out.below hd hH2.out.lt)
   have hv3 := Lib.hid (hv2.out.below hd hv2.out.lt)
   have ha3 := Lib.hid (ha2.out.below hd)
   have hb3 := Lib.hid (hb2.out.below hd)
   have hp3 := Lib.hid (hp2.out.below hd)
   have hq3 := Lib.hid (hq2.out.below hd)
   have hI3 := Lib.hid (hk.keep _ w2 x2 hI2.out hd)
   have hW3 := Lib.hid (hW2.out.trans (Writes.of_below hd M))
   clear hx20 hd r1 qv ql hH2 hv2 hI2 hW2 ha2 hb2 hp2 hq2
   go_wp2_with fail
   refine (exprB_any hk m a x2 _ va ha3.out hqa.out hI3.out).mono ?_
   rintro e y2 ⟨rfl, hI4, hW4⟩
   have hH4 := hW4.holds hH3.out hS
   have hv4 := hW4.holds hv3.out hgM
   have r2 := hH4.cell 2
   have qv := hv4.cell 0
   have ql := hH4.lt
   simp at r2 qv
   have hv2 := Lib.hid hv4
   have hH2 := Lib.hid hH4
   have hb2 := Lib.hid (hb3.out.wr hW4)
   have hp2 := Lib.hid (hp3.out.wr hW4)
   have hq2 := Lib.hid (hq3.out.wr hW4)
   have hW2 := Lib.hid (hW3.out.trans hW4)
   have hI2 := Lib.hid hI4
   clear hI4 hW4 hH4 hv4 hI3 hW3 hH3 hv3 ha3 hb3 hp3 hq3
   go_wp2_with fail
   go_still_tail 6, (by kernel_rfl)
   obtain ⟨x3, hx30⟩ : ∃ y, y = y2.drew := ⟨_, rfl⟩
   change wpList _ _ _ _ _ y2.drew
   rw [← hx30]
   have hd : Below y2.heap.size y2 x3 := by rw [hx30]; exact (Below.refl _ y2).drew
   have hH3 := Lib.hid (hH2.out.below hd hH2.out.lt)
   have hv3 := Lib.hid (hv2.out.below hd hv2.out.lt)
   have hb3 := Lib.hid (hb2.out.below hd)
   have hp3 := Lib.hid (hp2.out.below hd)
   have hq3 := Lib.hid (hq2.out.below hd)
   have hI3 := Lib.hid (hk.keep _ y2 x3 hI2.out hd)
   have hW3 := Lib.hid (hW2.out.trans (Writes.of_below hd M))
   clear hx30 hd r2 qv ql hH2 hv2 hI2 hW2 hb2 hp2 hq2
   go_wp2_with fail
   refine (exprB_any hk m b x3 _ vb hb3.out hqb.out hI3.out).mono ?_
   rintro e y3 ⟨rfl, hI4, hW4⟩
   have hH4 := hW4.holds hH3.out hS
   have hv4 := hW4.holds hv3.out hgM
   have r3 := hH4.cell 3
   have qv := hv4.cell 0
   have ql := hH4.lt
   simp at r3 qv
   have hv2 := Lib.hid hv4
   have hH2 := Lib.hid hH4
   have hp2 := Lib.hid (hp3.out.wr hW4)
   have hq2 := Lib.hid (hq3.out.wr hW4)
   have hW2 := Lib.hid (hW3.out.trans hW4)
   have hI2 := Lib.hid hI4
   clear hI4 hW4 hH4 hv4 hI3 hW3 hH3 hv3 hb3 hp3 hq3
   go_wp2_with fail
   go_still_tail 7, (by kernel_rfl)
   obtain ⟨x4, hx40⟩ : ∃ y, y = y3.drew := ⟨_, rfl⟩
   change wpList _ _ _ _ _ y3.drew
   rw [← hx40]
   have hd : Below y3.heap.size y3 x4 := by rw [hx40]; exact (Below.refl _ y3).drew
   have hH3 := Lib.hid (hH2.out.below hd hH2.out.lt)
   have hv3 := Lib.hid (hv2.out.below hd hv2.out.lt)
   have hp3 := Lib.hid (hp2.out.below hd)
   have hq3 := Lib.hid (hq2.out.below hd)
   have hI3 := Lib.hid (hk.keep _ y3 x4 hI2.out hd)
   have hW3 := Lib.hid (hW2.out.trans (Writes.of_below hd M))
   clear hx40 hd r3 qv ql hH2 hv2 hI2 hW2 hp2 hq2
   go_wp2_with fail
   refine (vcondB_any hk hk2 hf2 m p x4 _ vp hp3.out hqp.out hI3.out).mono ?_
   rintro e y4 ⟨rfl, hI4, hW4⟩
   have hH4 := hW4.holds hH3.out hS
   have hv4 := hW4.holds hv3.out hgM
   have r4 := hH4.cell 4
   have qv := hv4.cell 0
   have ql := hH4.lt
   simp at r4 qv
   have hv2 := Lib.hid hv4
   have hH2 := Lib.hid hH4
   have hq2 := Lib.hid (hq3.out.wr hW4)
   have hW2 := Lib.hid (hW3.out.trans hW4)
   have hI2 := Lib.hid hI4
   clear hI4 hW4 hH4 hv4 hI3 hW3 hH3 hv3 hp3 hq3
   go_wp2_with fail
   go_still_tail 7, (by kernel_rfl)
   obtain ⟨x5, hx50⟩ : ∃ y, y = y4.drew := ⟨_, rfl⟩
   change wpList _ _ _ _ _ y4.drew
   rw [← hx50]
   have hd : Below y4.heap.size y4 x5 := by rw [hx50]; exact (Below.refl _ y4).drew
   have hq3 := Lib.hid (hq2.out.below hd)
   have hI3 := Lib.hid (hk.keep _ y4 x5 hI2.out hd)
   have hW3 := Lib.hid (hW2.out.trans (Writes.of_below hd M))
   clear hx50 hd r4 qv ql hH2 hv2 hI2 hW2 hq2
   go_wp2_with fail
   refine (vcondB_any hk hk2 hf2 m q x5 _ vq hq3.out hqq.out hI3.out).mono ?_
   rintro e y5 ⟨rfl, hI4, hW4⟩
   have hI5 := Lib.hid hI4
   have hW5 := Lib.hid (hW3.out.trans hW4)
   clear hI4 hW4 hI3 hW3 hq3
   go_wp2_with fail
   go_end0
   exact ⟨rfl, by rw [hx2.out]; exact hI5.out, hW5.out⟩
  ·have hkn : ((kd : Int) == 9) = false := by simp; omega
   have hbu2 : (exL a).length + ((exL b).length + ((cnL p).length + (cnL q).length)) ≤ bud (s) := by have h1 := hbu; unfold cnL at h1; simp at h1; exact h1
   have hqa : Hid ((exL a).length ≤ bud (s)) := Lib.hid (by omega)
   have hqb : Hid ((exL b).length ≤ bud (exN f (s) a)) := Lib.hid (by have h1 := exN_bud hk.step (s) a; omega)
   have hqp : Hid ((cnL p).length ≤ bud (exN f (exN f (s) a) b)) := Lib.hid (by have h1 := exN_bud hk.step (s) a; have h2 := exN_bud hk.step (exN f (s) a) b; omega)
   have hqq : Hid ((cnL q).length ≤ bud (cnN f f2 (exN f (exN f (s) a) b) p)) := Lib.hid (by have h1 := exN_bud hk.step (s) a; have h2 := exN_bud hk.step (exN f (s) a) b; have h3 := cnN_bud hk.step hf2 (exN f (exN f (s) a) b) p; omega)
   clear hbu2 hbu
   have hx2 : Hid (cnN f f2 s (Cn.mk kd a b p q x) = cnN f f2 (cnN f f2 (exN f (exN f s a) b) p) q) := Lib.hid (by conv => lhs; unfold cnN; rw [if_neg hk1])
   have hH2 := hH1'
   have hv2 := hv1'
   have ha2 := ha1
   have hp2 := hp1
   have hq2 := hq1
   have hI2 := hI1
   have hW2 := hW1
   clear hH1' hv1' ha1 hp1 hq1 hI1 hW1 hk1 r5
   go_wp2_with fail
   go_still_tail 6, (by kernel_rfl)
   obtain ⟨x2, hx20⟩ : ∃ y, y = w1.drew := ⟨_, rfl⟩
   change wpList _ _ _ _ _ w1.drew
   rw [← hx20]
   have hd : Below w1.heap.size w1 x2 := by rw [hx20]; exact (Below.refl _ w1).drew
   have hH3 := Lib.hid (hH2.out.below hd hH2.out.lt)
   have hv3 := Lib.hid (hv2.out.below hd hv2.out.lt)
   have ha3 := Lib.hid (ha2.out.below hd)
   have hb3 := Lib.hid (hb2.out.below hd)
   have hp3 := Lib.hid (hp2.out.below hd)
   have hq3 := Lib.hid (hq2.out.below hd)
   have hI3 := Lib.hid (hk.keep _ w1 x2 hI2.out hd)
   have hW3 := Lib.hid (hW2.out.trans (Writes.of_below hd M))
   clear hx20 hd r1 qv ql hH2 hv2 hI2 hW2 ha2 hb2 hp2 hq2
   go_wp2_with fail
   refine (exprB_any hk m a x2 _ va ha3.out hqa.out hI3.out).mono ?_
   rintro e y2 ⟨rfl, hI4, hW4⟩
   have hH4 := hW4.holds hH3.out hS
   have hv4 := hW4.holds hv3.out hgM
   have r2 := hH4.cell 2
   have qv := hv4.cell 0
   have ql := hH4.lt
   simp at r2 qv
   have hv2 := Lib.hid hv4
   have hH2 := Lib.hid hH4
   have hb2 := Lib.hid (hb3.out.wr hW4)
   have hp2 := Lib.hid (hp3.out.wr hW4)
   have hq2 := Lib.hid (hq3.out.wr hW4)
   have hW2 := Lib.hid (hW3.out.trans hW4)
   have hI2 := Lib.hid hI4
   clear hI4 hW4 hH4 hv4 hI3 hW3 hH3 hv3 ha3 hb3 hp3 hq3
   go_wp2_with fail
   go_still_tail 6, (by kernel_rfl)
   obtain ⟨x3, hx30⟩ : ∃ y, y = y2.drew := ⟨_, rfl⟩
   change wpList _ _ _ _ _ y2.drew
   rw [← hx30]
   have hd : Below y2.heap.size y2 x3 := by rw [hx30]; exact (Below.refl _ y2).drew
   have hH3 := Lib.hid (hH2.out.below hd hH2.out.lt)
   have hv3 := Lib.hid (hv2.out.below hd hv2.out.lt)
   have hb3 := Lib.hid (hb2.out.below hd)
   have hp3 := Lib.hid (hp2.out.below hd)
   have hq3 := Lib.hid (hq2.out.below hd)
   have hI3 := Lib.hid (hk.keep _ y2 x3 hI2.out hd)
   have hW3 := Lib.hid (hW2.out.trans (Writes.of_below hd M))
   clear hx30 hd r2 qv ql hH2 hv2 hI2 hW2 hb2 hp2 hq2
   go_wp2_with fail
   refine (exprB_any hk m b x3 _ vb hb3.out hqb.out hI3.out).mono ?_
   rintro e y3 ⟨rfl, hI4, hW4⟩
   have hH4 := hW4.holds hH3.out hS
   have hv4 := hW4.holds hv3.out hgM
   have r3 := hH4.cell 3
   have qv := hv4.cell 0
   have ql := hH4.lt
   simp at r3 qv
   have hv2 := Lib.hid hv4
   have hH2 := Lib.hid hH4
   have hp2 := Lib.hid (hp3.out.wr hW4)
   have hq2 := Lib.hid (hq3.out.wr hW4)
   have hW2 := Lib.hid (hW3.out.trans hW4)
   have hI2 := Lib.hid hI4
   clear hI4 hW4 hH4 hv4 hI3 hW3 hH3 hv3 hb3 hp3 hq3
   go_wp2_with fail
   go_still_tail 7, (by kernel_rfl)
   obtain ⟨x4, hx40⟩ : ∃ y, y = y3.drew := ⟨_, rfl⟩
   change wpList _ _ _ _ _ y3.drew
   rw [← hx40]
   have hd : Below y3.heap.size y3 x4 := by rw [hx40]; exact (Below.refl _ y3).drew
   have hH3 := Lib.hid (hH2.out.below hd hH2.out.lt)
   have hv3 := Lib.hid (hv2.out.below hd hv2.out.lt)
   have hp3 := Lib.hid (hp2.out.below hd)
   have hq3 := Lib.hid (hq2.out.below hd)
   have hI3 := Lib.hid (hk.keep _ y3 x4 hI2.out hd)
   have hW3 := Lib.hid (hW2.out.trans (Writes.of_below hd M))
   clear hx40 hd r3 qv ql hH2 hv2 hI2 hW2 hp2 hq2
   go_wp2_with fail
   refine (vcondB_any hk hk2 hf2 m p x4 _ vp hp3.out hqp.out hI3.out).mono ?_
   rintro e y4 ⟨rfl, hI4, hW4⟩
   have hH4 := hW4.holds hH3.out hS
   have hv4 := hW4.holds hv3.out hgM
   have r4 := hH4.cell 4
   have qv := hv4.cell 0
   have ql := hH4.lt
   simp at r4 qv
   have hv2 := Lib.hid hv4
   have hH2 := Lib.hid hH4
   have hq2 := Lib.hid (hq3.out.wr hW4)
   have hW2 := Lib.hid (hW3.out.trans hW4)
   have hI2 := Lib.hid hI4
   clear hI4 hW4 hH4 hv4 hI3 hW3 hH3 hv3 hp3 hq3
   go_wp2_with fail
   go_still_tail 7, (by kernel_rfl)
   obtain ⟨x5, hx50⟩ : ∃ y, y = y4.drew := ⟨_, rfl⟩
   change wpList _ _ _ _ _ y4.drew
   rw [← hx50]
   have hd : Below y4.heap.size y4 x5 := by rw [hx50]; exact (Below.refl _ y4).drew
   have hq3 := Lib.hid (hq2.out.below hd)
   have hI3 := Lib.hid (hk.keep _ y4 x5 hI2.out hd)
   have hW3 := Lib.hid (hW2.out.trans (Writes.of_below hd M))
   clear hx50 hd r4 qv ql hH2 hv2 hI2 hW2 hq2
   go_wp2_with fail
   refine (vcondB_any hk hk2 hf2 m q x5 _ vq hq3.out hqq.out hI3.out).mono ?_
   rintro e y5 ⟨rfl, hI4, hW4⟩
   have hI5 := Lib.hid hI4
   have hW5 := Lib.hid (hW3.out.trans hW4)
   clear hI4 hW4 hI3 hW3 hq3
   go_wp2_with fail
   go_end0
   exact ⟨rfl, by rw [hx2.out]; exact hI5.out, hW5.out⟩
end Go.Proofs.Ytpndglghpojjkaa
/- Package names: a visitor's walk over statements, where the function value has so much left. -/
namespace Go.Proofs.Ytpndglghpojjkaa
open Go.RowKit Go.Deep

/-- What statements cost. -/
def cstS (cst : Hd → Nat) : Sl → Nat
 | .nil => 0
 | .cons h t e r => cst h + (cstS cst t + (cstS cst e + cstS cst r))
/-- A function value that is handed statements until it says no, where each costs of what is left. -/
structure StSnkB (k : Nat) (first cap : Array Value) (M : List (Option Nat)) {σ : Type} (I : σ → World → Prop) (d : σ → Hd → σ × Bool) (bud : σ → Nat) (cst : Hd → Nat) : Prop where
 ent : ∀ args w, (callFunc k args).run Try.prog w = .ok (.enter k args) w
 call : ∀ s h w pe pf pc Aa At Al na ca nt ct nl cl, HdAt w (NotOf M) h (.pointer pe) (.pointer pf) (.pointer pc) (.slice Aa na ca) → cst h ≤ bud s → I s w →
  Calls Try.prog k (first ++ #[.agg (stC h pe pf pc Aa At Al na ca nt ct nl cl)] ++ cap) w fun e w' => e = .returned (.bool (d s h).2) ∧ I (d s h).1 w' ∧ Writes M w w'
 keep : ∀ s w w', I s w → Below w.heap.size w w' → I s w'
 low : ∀ s w g, I s w → some g ∈ M → g < w.heap.size
 step : ∀ s h, bud s ≤ bud (d s h).1 + cst h
theorem vis_bud {σ : Type} {d : σ → Hd → σ × Bool} {bud : σ → Nat} {cst : Hd → Nat} (hs : ∀ s h, bud s ≤ bud (d s h).1 + cst h) : ∀ (s : σ) (l : Sl), bud s ≤ bud (vis d s l).1 + cstS cst l
 | s, .nil => Nat.le_refl _
 | s, .cons h t e r => by
  have h1 := hs s h
  have h2 := vis_bud hs (d s h).1 t
  have h3 := vis_bud hs (vis d (d s h).1 t).1 e
  have h4 := vis_bud hs (vis d (vis d (d s h).1 t).1 e).1 r
  unfold vis cstS
  split
  ·split
   ·split
    ·omega
    ·simp only; omega
   ·simp only; omega
  ·simp only; omega
set_option maxRecDepth 100000 in
set_option maxHeartbeats 4000000 in
theorem vstmtsB_any {kf : Nat} {first cap : Array Value} {M : List (Option Nat)} {σ : Type} {I : σ → World → Prop} {d : σ → Hd → σ × Bool} {bud : σ → Nat} {cst : Hd → Nat} (hk : StSnkB kf first cap M I d bud cst) (m : Option Nat) : ∀ (N : Nat) (l : Sl), l.dep ≤ N → ∀ (w : World) (s : σ) (v : Value), SlAt w (NotOf M) l v → cstS cst l ≤ bud s → I s w →
  Calls Try.prog 24 #[.agg #[.map m], v, .func (.func kf) first cap] w fun e' w' => e' = .returned (.bool (vis d s l).2) ∧ I (vis d s l).1 w' ∧ Writes M w w' := by
 intro N
 induction N using Nat.strongRecOn with
 | _ N ih =>
 intro l hN w s v hv hbu hI
 have hbu0 := Lib.hid hbu
 clear hbu
 obtain ⟨A, c, us, e, hlen, hlc, hR⟩ := hv.rest
 subst e
 obtain ⟨w1, hw1⟩ : ∃ y, y = w.alloc (.cells #[.map m] 63) := ⟨_, rfl⟩
 obtain ⟨gv, hgv⟩ : ∃ y, y = w.heap.size := ⟨_, rfl⟩
 have hb1 : Below w.heap.size w w1 := by rw [hw1]; exact below_new w _
 have hv1 : Holds w1 gv 63 #[.map m] := by rw [hw1, hgv]; exact Holds.new w _ _
 have hgM : NotOf M gv := fun hm => by have := hk.low s w gv hI hm; omega
 have hV1 : Hid (Vis m M gv w w1) := Lib.hid ⟨hv1, hgM, Writes.of_below hb1 M⟩
 have hI1 := Lib.hid (hk.keep s w _ hI hb1)
 have hR1 := Lib.hid (hR.wr (Writes.of_below hb1 M))
 obtain ⟨R, hRe⟩ : ∃ R, R = vis d s l := ⟨_, rfl⟩
 obtain ⟨n, hn⟩ : ∃ y, y = l.len := ⟨_, rfl⟩
 rw [← hRe]
 rw [← hn] at hlen hlc ⊢
 have hfold := Lib.hid hw1.symm
 have hgv' := Lib.hid hgv.symm
 have hih := Lib.hid ih
 have hR0 : Hid (vis d s l = R) := Lib.hid hRe.symm
 have hn0 : Hid (0 + l.len = n) := Lib.hid (by rw [hn]; simp)
 have hN' : Hid (l.dep ≤ N) := Lib.hid hN
 have hent := hk.ent
 clear hw1 hgv hb1 hv1 hI hv hR hRe hn ih hgM hN
 go_enter Try.func24, Try.ntmps24
 go_upto_region 1 with (fail)
 rw [hgv'.out, hfold.out]
 clear hfold hgv'
 go_wp2_with fail
 go_loopw [11] (fun i wl => ∃ (k : Nat) (ls : Sl) (ss : σ) (vs : List Value), k ≤ n ∧ i = .int .i64 k ∧ Hid (RestAt wl (NotOf M) A k ls vs) ∧ Hid (vis d ss ls = R) ∧ Hid (I ss wl) ∧ Hid (Vis m M gv w wl) ∧ Hid (k + ls.len = n) ∧ Hid (ls.dep ≤ N) ∧ Hid (cstS cst ls ≤ bud ss)) (fun i _ => n - (intOf i).toNat)
 case atStart => exact ⟨0, l, s, us, by omega, rfl, hR1, hR0, hI1, hV1, hn0, hN', hbu0⟩
 clear hR1 hR0 hI1 hV1 hn0 hN' hbu0
 obtain ⟨k, ls, ss, vs, hkn, rfl, hR, hRe, hI, hV, hln, hdp, hbu⟩ := hrel
 rename World => wl
 cases ls with
 | nil =>
  have hkn2 : k = n := by have := hln.out; simp [Sl.len] at this; exact this
  have hF : Hid (R = (ss, true)) := Lib.hid (by rw [← hRe.out]; rfl)
  subst hkn2
  clear hR hRe
  go_wp2_with fail
  go_ret
  exact ⟨by rw [hF.out]; rfl, by rw [hF.out]; exact hI.out, hV.out.wr⟩
 | cons h t e r =>
  have hlt : k < n := by have := hln.out; simp only [Sl.len] at this; omega
  have hbuc : Hid (cst h ≤ bud ss ∧ cstS cst t + (cstS cst e + cstS cst r) ≤ bud (d ss h).1) := Lib.hid (by have h1 := hbu.out; unfold cstS at h1; have h2 := hk.step ss h; omega)
  clear hbu
  obtain ⟨b, off, pe, pf, pc, Aa, ca, At, ct, Al, cl, us', hA, hh, ht, he, hc, hrest⟩ := hR.out.next
  subst hA
  have q0 : wl.cell? ⟨b, off + k * 10, none⟩ = some (.int .i64 h.k) := hc 0 (by decide)
  have q1 : wl.cell? ⟨b, off + k * 10 + 1, none⟩ = some (.string (strV h.x)) := hc 1 (by decide)
  have q2 : wl.cell? ⟨b, off + k * 10 + 2, none⟩ = some (.string (strV h.y)) := hc 2 (by decide)
  have q3 : wl.cell? ⟨b, off + k * 10 + 3, none⟩ = some (.pointer pe) := hc 3 (by decide)
  have q4 : wl.cell? ⟨b, off + k * 10 + 4, none⟩ = some (.pointer pf) := hc 4 (by decide)
  have q5 : wl.cell? ⟨b, off + k * 10 + 5, none⟩ = some (.pointer pc) := hc 5 (by decide)
  have q6 : wl.cell? ⟨b, off + k * 10 + 6, none⟩ = some (.slice Aa h.args.length ca) := hc 6 (by decide)
  have q7 : wl.cell? ⟨b, off + k * 10 + 7, none⟩ = some (.slice At t.len ct) := hc 7 (by decide)
  have q8 : wl.cell? ⟨b, off + k * 10 + 8, none⟩ = some (.slice Al e.len cl) := hc 8 (by decide)
  have q9 : wl.cell? ⟨b, off + k * 10 + 9, none⟩ = some (.int .i64 h.at_) := hc 9 (by decide)
  obtain ⟨qv, qvl⟩ := hV.out.facts
  have hdt : Hid (t.dep < N ∧ e.dep < N ∧ r.dep ≤ N) := Lib.hid (by have := hdp.out; unfold Sl.dep at this; omega)
  have hrl : Hid (k + 1 + r.len = n) := Lib.hid (by have := hln.out; simp only [Sl.len] at this; omega)
  obtain ⟨wn, hwn⟩ : ∃ y, y = wl.alloc (.cells #[.int .i64 h.k, .string (strV h.x), .string (strV h.y), .pointer pe, .pointer pf, .pointer pc, .slice Aa h.args.length ca, .slice At t.len ct, .slice Al e.len cl, .int .i64 h.at_] 38) := ⟨_, rfl⟩
  obtain ⟨gs, hgs⟩ : ∃ y, y = wl.heap.size := ⟨_, rfl⟩
  have hbn : Below wl.heap.size wl wn := by rw [hwn]; exact below_new wl _
  have hHs : Holds wn gs 38 (stC h pe pf pc Aa At Al h.args.length ca t.len ct e.len cl) := by rw [hwn, hgs]; exact Holds.new wl _ _
  have hgsM : NotOf M gs := fun hm => by have := hk.low ss wl gs hI.out hm; omega
  have hWn := Writes.of_below hbn M
  have hVn := Lib.hid (hV.out.wr_ hWn)
  have hIn := Lib.hid (hk.keep ss wl _ hI.out hbn)
  have hhn := Lib.hid (hh.below hbn)
  have htn := Lib.hid (ht.below hbn)
  have hen := Lib.hid (he.below hbn)
  have hrn := Lib.hid (hrest.wr hWn)
  have hHn := Lib.hid hHs
  have hfo := Lib.hid hwn.symm
  have hgs' := Lib.hid hgs.symm
  have hgsM' := Lib.hid hgsM
  have hF : Hid (vis d ss (.cons h t e r) = R) := hRe
  clear hR hRe hI hV hln hdp hc hrest hwn hgs hbn hHs hgsM hWn hh ht he
  go_upto_region 4 with (fail)
  rw [hgs'.out, hfo.out]
  clear hfo hgs' q0 q1 q2 q3 q4 q5 q6 q7 q8 q9 qv qvl
  have q0 : wn.cell? ⟨gs, 0, none⟩ = some (.int .i64 h.k) := hHn.out.cell 0
  have q1 : wn.cell? ⟨gs, 1, none⟩ = some (.string (strV h.x)) := hHn.out.cell 1
  have q2 : wn.cell? ⟨gs, 2, none⟩ = some (.string (strV h.y)) := hHn.out.cell 2
  have q3 : wn.cell? ⟨gs, 3, none⟩ = some (.pointer pe) := hHn.out.cell 3
  have q4 : wn.cell? ⟨gs, 4, none⟩ = some (.pointer pf) := hHn.out.cell 4
  have q5 : wn.cell? ⟨gs, 5, none⟩ = some (.pointer pc) := hHn.out.cell 5
  have q6 : wn.cell? ⟨gs, 6, none⟩ = some (.slice Aa h.args.length ca) := hHn.out.cell 6
  have q7 : wn.cell? ⟨gs, 7, none⟩ = some (.slice At t.len ct) := hHn.out.cell 7
  have q8 : wn.cell? ⟨gs, 8, none⟩ = some (.slice Al e.len cl) := hHn.out.cell 8
  have q9 : wn.cell? ⟨gs, 9, none⟩ = some (.int .i64 h.at_) := hHn.out.cell 9
  have qs := hHn.out.lt
  obtain ⟨qv, qvl⟩ := hVn.out.facts
  go_wp2_with fail
  refine (hk.call ss h wn pe pf pc Aa At Al h.args.length ca t.len ct e.len cl hhn.out hbuc.out.1 hIn.out).mono ?_
  rintro e0 w3 ⟨rfl, hI3, hW3⟩
  have hH3 := hW3.holds hHn.out hgsM'.out
  have hV3 := hVn.out.wr_ hW3
  clear q0 q1 q2 q3 q4 q5 q6 q7 q8 q9 qs qv qvl
  have q7 : w3.cell? ⟨gs, 7, none⟩ = some (.slice At t.len ct) := hH3.cell 7
  have qs := hH3.lt
  obtain ⟨qv, qvl⟩ := hV3.facts
  have hI3 := Lib.hid hI3
  have ht3 := Lib.hid (htn.out.wr hW3)
  have he3 := Lib.hid (hen.out.wr hW3)
  have hr3 := Lib.hid (hrn.out.wr hW3)
  have hH3' := Lib.hid hH3
  have hV3' := Lib.hid hV3
  clear hH3 hV3 hW3 hHn hVn hIn hhn htn hen hrn
  obtain ⟨s1, hs1⟩ : ∃ y, y = (d ss h).1 := ⟨_, rfl⟩
  rw [← hs1] at hI3
  have hbu1 : Hid (cstS cst t + (cstS cst e + cstS cst r) ≤ bud s1) := Lib.hid (by rw [hs1]; exact hbuc.out.2)
  clear hbuc
  cases hb1 : (d ss h).2 with
  | false =>
   have hR1 : Hid (R = (s1, false)) := Lib.hid (by rw [← hF.out]; unfold vis; rw [if_neg (by rw [hb1]; simp), hs1])
   clear hF hs1 hb1 ht3 he3 hr3 hH3'
   go_wp2_with fail
   go_ret
   exact ⟨by rw [hR1.out]; rfl, by rw [hR1.out]; exact hI3.out, hV3'.out.wr⟩
  | true =>
   have hF1 : Hid ((if (vis d s1 t).2 then (if (vis d (vis d s1 t).1 e).2 then vis d (vis d (vis d s1 t).1 e).1 r else ((vis d (vis d s1 t).1 e).1, false)) else ((vis d s1 t).1, false)) = R) := Lib.hid (by
    rw [← hF.out]
    conv => rhs; unfold vis
    rw [if_pos hb1, hs1])
   replace hs1 := Lib.hid hs1
   clear hF hb1
   go_wp2_with fail
   refine (hih.out t.dep hdt.out.1 t (Nat.le_refl _) w3 s1 _ ht3.out (by have := hbu1.out; omega) hI3.out).mono ?_
   rintro e1 w4 ⟨rfl, hI4, hW4⟩
   have hH4 := hW4.holds hH3'.out hgsM'.out
   have hV4 := hV3'.out.wr_ hW4
   clear q7 qs qv qvl
   have q8 : w4.cell? ⟨gs, 8, none⟩ = some (.slice Al e.len cl) := hH4.cell 8
   have qs := hH4.lt
   obtain ⟨qv, qvl⟩ := hV4.facts
   have hI4 := Lib.hid hI4
   have he4 := Lib.hid (he3.out.wr hW4)
   have hr4 := Lib.hid (hr3.out.wr hW4)
   have hH4' := Lib.hid hH4
   have hV4' := Lib.hid hV4
   clear hH4 hV4 hW4 hH3' hV3' hI3 ht3 he3 hr3
   obtain ⟨s2, hs2⟩ : ∃ y, y = (vis d s1 t).1 := ⟨_, rfl⟩
   rw [← hs2] at hI4
   have hbu2 : Hid (cstS cst e + cstS cst r ≤ bud s2) := Lib.hid (by rw [hs2]; have h1 := hbu1.out; have h2 := vis_bud hk.step s1 t; omega)
   clear hbu1
   cases hb2 : (vis d s1 t).2 with
   | false =>
    have hR1 : Hid (R = (s2, false)) := Lib.hid (by rw [← hF1.out, if_neg (by rw [hb2]; simp), hs2])
    clear hF1 hs2 hb2 he4 hr4 hH4'
    go_wp2_with fail
    go_ret
    exact ⟨by rw [hR1.out]; rfl, by rw [hR1.out]; exact hI4.out, hV4'.out.wr⟩
   | true =>
    have hF2 : Hid ((if (vis d s2 e).2 then vis d (vis d s2 e).1 r else ((vis d s2 e).1, false)) = R) := Lib.hid (by
     rw [← hF1.out, if_pos hb2, hs2])
    replace hs2 := Lib.hid hs2
    clear hF1 hb2
    go_wp2_with fail
    refine (hih.out e.dep hdt.out.2.1 e (Nat.le_refl _) w4 s2 _ he4.out (by have := hbu2.out; omega) hI4.out).mono ?_
    rintro e2 w5 ⟨rfl, hI5, hW5⟩
    have hV5 := Lib.hid (hV4'.out.wr_ hW5)
    have hI5 := Lib.hid hI5
    have hr5 := Lib.hid (hr4.out.wr hW5)
    clear q8 qs qv qvl hW5 hH4' hV4' hI4 he4 hr4
    obtain ⟨s3, hs3⟩ : ∃ y, y = (vis d s2 e).1 := ⟨_, rfl⟩
    rw [← hs3] at hI5
    have hbu3 : Hid (cstS cst r ≤ bud s3) := Lib.hid (by rw [hs3]; have h1 := hbu2.out; have h2 := vis_bud hk.step s2 e; omega)
    clear hbu2
    cases hb3 : (vis d s2 e).2 with
    | false =>
     have hR1 : Hid (R = (s3, false)) := Lib.hid (by rw [← hF2.out, if_neg (by rw [hb3]; simp), hs3])
     clear hF2 hs3 hb3 hr5
     go_wp2_with fail
     go_ret
     exact ⟨by rw [hR1.out]; rfl, by rw [hR1.out]; exact hI5.out, hV5.out.wr⟩
    | true =>
     have hF3 : Hid (vis d s3 r = R) := Lib.hid (by rw [← hF2.out, if_pos hb3, hs3])
     clear hF2 hb3 hs3
     go_wp2_with fail
     exact ⟨⟨k + 1, r, s3, us', by omega, by simp, hr5, hF3, hI5, hV5, hrl, Lib.hid hdt.out.2.2, hbu3⟩, by simp [intOf]; omega⟩
end Go.Proofs.Ytpndglghpojjkaa
/- Package names: the collector: a set of names; add, addGlobal; the names sorted. -/
namespace Go.Proofs.Ytpndglghpojjkaa
open Go.RowKit Go.Deep

/-- What a collector works on: the map of kinds m, the set fm. -/
structure ClI (m fm : Nat) (K : List UInt8 → Nat) (s : List S) (w : World) : Prop where
 km : KMap w m K
 fs : SMap w fm s.length (setF s)
 len : s.length ≤ 500000
 ne : m ≠ fm
theorem ClI.below {m fm : Nat} {K : List UInt8 → Nat} {s : List S} {w w' : World} (h : ClI m fm K s w) (hb : Below w.heap.size w w') : ClI m fm K s w' :=
 ⟨h.km.below hb, h.fs.loc (hb.block fm h.fs.lt), h.len, h.ne⟩
def addG (K : List UInt8 → Nat) (s : List S) (x : List UInt8) : List S := if K x = 0 then s ++ [x] else s
def budL (s : List S) : Nat := 500000 - s.length
set_option maxRecDepth 100000 in
theorem cadd_any (w : World) (m fm : Nat) (K : List UInt8 → Nat) (s : List S) (h : ClI m fm K s w) (x : List UInt8) (hx : x.length ≤ 4096) (hs : s.length < 500000) :
  Calls Try.prog 55 #[.agg #[.map (some m), .map (some fm)], .string (strV x)] w fun e w' => e = .returned (.tuple #[]) ∧ ClI m fm K (s ++ [x]) w' ∧ Writes [some fm] w w' := by
 obtain ⟨w1, hw1⟩ : ∃ y, y = w.alloc (.cells #[.map (some m), .map (some fm)] 75) := ⟨_, rfl⟩
 have hb1 : Below w.heap.size w w1 := by rw [hw1]; exact below_new w _
 have h1 := h.below hb1
 obtain ⟨w2, hrun, hm, hg, hsz⟩ := h1.fs.store Try.underlying73 (k := strV x) (by simp [strV, ByteArray.size, maxLen]; omega) (by have := h.len; omega) (.agg #[])
 have hW : Writes [some fm] w1 w2 := Writes.of_grown hg (by simp)
 have h2 : Hid (ClI m fm K (s ++ [x]) w2) := Lib.hid ⟨h1.km.writes hW (by simp; exact h.ne), by rw [setF_snoc] at hm; simpa using hm, by simp; omega, h.ne⟩
 have hWW := Lib.hid ((Writes.of_below hb1 [some fm]).trans hW)
 rw [hw1] at hrun
 clear h1 hm hg hsz hW hb1 hw1 h
 go_enter Try.func55, Try.ntmps55
 go_wp2_with fail
 go_end0
 exact ⟨rfl, h2.out, hWW.out⟩
set_option maxRecDepth 100000 in
theorem addG_any (w : World) (m fm : Nat) (K : List UInt8 → Nat) (s : List S) (h : ClI m fm K s w) (x : List UInt8) (hx : x.length ≤ 4096) (hs : s.length < 500000) :
  Calls Try.prog 33 #[.agg #[.map (some m), .map (some fm)], .string (strV x)] w fun e w' => e = .returned (.tuple #[]) ∧ ClI m fm K (addG K s x) w' ∧ Writes [some fm] w w' := by
 obtain ⟨w1, hw1⟩ : ∃ y, y = w.alloc (.cells #[.map (some m), .map (some fm)] 75) := ⟨_, rfl⟩
 obtain ⟨g, hg⟩ : ∃ y, y = w.heap.size := ⟨_, rfl⟩
 have hb1 : Below w.heap.size w w1 := by rw [hw1]; exact below_new w _
 have hH : Holds w1 g 75 #[.map (some m), .map (some fm)] := by rw [hw1, hg]; exact Holds.new w _ _
 have h1 := Lib.hid (h.below hb1)
 have q0 : w1.cell? ⟨g, 0, none⟩ = some (.map (some m)) := hH.cell 0
 have ql := hH.lt
 have hfo := Lib.hid hw1.symm
 have hg' := Lib.hid hg.symm
 have hW1 := Lib.hid (Writes.of_below hb1 [some fm])
 have hH' := Lib.hid hH
 clear hw1 hg hb1 hH h
 go_enter Try.func33, Try.ntmps33
 go_upto_region 1 with (fail)
 rw [hfo.out, hg'.out]
 clear hfo hg'
 go_wp2_with fail
 refine (global_any w1 m K h1.out.km x hx).mono ?_
 rintro e w2 ⟨rfl, hb2⟩
 have h2 := Lib.hid (h1.out.below hb2)
 have hH2 := hH'.out.below hb2 hH'.out.lt
 clear q0 ql
 have q0 : w2.cell? ⟨g, 0, none⟩ = some (.map (some m)) := hH2.cell 0
 have q1 : w2.cell? ⟨g, 1, none⟩ = some (.map (some fm)) := hH2.cell 1
 have ql := hH2.lt
 have hW2 := Lib.hid (hW1.out.trans (Writes.of_below hb2 [some fm]))
 clear hb2 hH2 hH' h1 hW1
 by_cases hk : K x = 0
 ·have e1 : (K x == 0) = true := by simp [hk]
  have e2 : Hid (addG K s x = s ++ [x]) := Lib.hid (by unfold addG; rw [if_pos hk])
  rw [e1]
  clear hk
  go_wp2_with fail
  refine (cadd_any w2 m fm K s h2.out x hx hs).mono ?_
  rintro e w3 ⟨rfl, h3, hW3⟩
  have h3' := Lib.hid h3
  have hW3' := Lib.hid (hW2.out.trans hW3)
  clear h3 hW3 q0 q1 ql
  go_wp2_with fail
  go_end0
  exact ⟨rfl, by rw [e2.out]; exact h3'.out, hW3'.out⟩
 ·have e1 : (K x == 0) = false := by simp [hk]
  have e2 : Hid (addG K s x = s) := Lib.hid (by unfold addG; rw [if_neg hk])
  rw [e1]
  clear hk
  go_wp2_with fail
  go_end0
  exact ⟨rfl, by rw [e2.out]; exact h2.out, hW2.out⟩
theorem addG_snk (m fm : Nat) (K : List UInt8 → Nat) : SnkB 33 #[.agg #[.map (some m), .map (some fm)]] #[] [some fm] (ClI m fm K) (addG K) budL :=
 ⟨enters_of Try.func33 (by kernel_rfl) rfl, fun s x w hx hb h => addG_any w m fm K s h x hx (by unfold budL at hb; omega), fun _ _ _ h hb => h.below hb, fun _ _ g h hg => by simp at hg; subst hg; exact h.fs.lt, fun s x => by unfold budL addG; split <;> simp <;> omega⟩
set_option maxRecDepth 100000 in
theorem noop_any (w : World) (x : List UInt8) : Calls Try.prog 60 #[.string (strV x)] w fun e w' => e = .returned (.tuple #[]) ∧ w' = w := by
 go_enter Try.func60, Try.ntmps60
 go_wp2_with fail
 go_end0
 exact ⟨rfl, rfl⟩
theorem noop_snk {k : Nat} {first cap : Array Value} {M : List (Option Nat)} {σ : Type} {I : σ → World → Prop} {f : σ → List UInt8 → σ} {bud : σ → Nat} (hk : SnkB k first cap M I f bud) : Snk 60 #[] #[] M I (fun s _ => s) :=
 ⟨enters_of Try.func60 (by kernel_rfl) rfl, fun s x w _ h => (noop_any w x).mono fun _ _ ⟨h1, h2⟩ => ⟨h1, by rw [h2]; exact h, by rw [h2]; exact Writes.refl _ _⟩, hk.keep, hk.low⟩
set_option maxRecDepth 100000 in
theorem csorted_any (w : World) (m fm : Nat) (K : List UInt8 → Nat) (s : List S) (h : ClI m fm K s w) :
  Calls Try.prog 34 #[.agg #[.map (some m), .map (some fm)]] w fun e w' => (∃ v, e = .returned v ∧ w'.ownsRow w.heap.size 9 1 v (canon s).length ((canon s).map encStr)) ∧ Below w.heap.size w w' := by
 obtain ⟨w1, hw1⟩ : ∃ y, y = w.alloc (.cells #[.map (some m), .map (some fm)] 75) := ⟨_, rfl⟩
 have hb1 : Below w.heap.size w w1 := by rw [hw1]; exact below_new w _
 have h1 := Lib.hid (h.below hb1)
 have hb1' := Lib.hid hb1
 have hfo := Lib.hid hw1.symm
 clear hw1 hb1 h
 go_enter Try.func34, Try.ntmps34
 go_wp2_with fail
 rw [hfo.out]
 refine (keyS_list w1 fm).mono ?_
 rintro e w2 ⟨rfl, rfl⟩
 have hso := Lib.hid (sortedS_any w1 fm s.length (setF s) h1.out.fs (by have := h1.out.len; omega))
 clear hfo
 go_wp2_with fail
 refine hso.out.mono ?_
 rintro e w3 ⟨⟨v, ks, rfl, hK, -, ho⟩, hb⟩
 rw [keys_canon hK] at ho
 have hv1 := Lib.hid (own_base ho hb1'.out.size)
 have hB1 := Lib.hid (hb1'.out.trans (hb.mono hb1'.out.size))
 clear ho hb hso hK
 go_wp2_with fail
 go_ret
 exact ⟨⟨_, rfl, hv1.out⟩, hB1.out⟩
end Go.Proofs.Ytpndglghpojjkaa
/- Package names: exprs: each name in a statement's own expressions is handed on. -/
namespace Go.Proofs.Ytpndglghpojjkaa
open Go.RowKit Go.Deep

/-- What the names of arguments, of a statement's own expressions do. -/
def agN {σ : Type} (f : σ → List UInt8 → σ) (s : σ) (l : List Ag) : σ := l.foldl (fun s a => if a.ptr then s else exN f s a.e) s
def hsN {σ : Type} (f : σ → List UInt8 → σ) (s : σ) (h : Hd) : σ := agN f (cnN f (fun s _ => s) (exN f (exN f s h.e) h.f) h.c) h.args
def hsC (h : Hd) : Nat := (exL h.e).length + ((exL h.f).length + ((cnL h.c).length + (agR h.args).length))
theorem agN_bud {σ : Type} {f : σ → List UInt8 → σ} {bud : σ → Nat} (h : ∀ s x, bud s ≤ bud (f s x) + 1) : ∀ (l : List Ag) (s : σ), bud s ≤ bud (agN f s l) + (agR l).length
 | [], _ => Nat.le_refl _
 | a :: l, s => by
  have h2 := agN_bud h l (if a.ptr then s else exN f s a.e)
  have h1 := exN_bud h s a.e
  have e1 : agN f s (a :: l) = agN f (if a.ptr then s else exN f s a.e) l := rfl
  have e2 : (agR (a :: l)).length = (exL a.e).length + (agR l).length := by unfold agR; rw [List.flatMap_cons, List.length_append]
  have h3 : bud s ≤ bud (if a.ptr then s else exN f s a.e) + (exL a.e).length := by
   split
   ·omega
   ·exact h1
  rw [e1, e2]
  omega
theorem hsN_bud {σ : Type} {f : σ → List UInt8 → σ} {bud : σ → Nat} (h : ∀ s x, bud s ≤ bud (f s x) + 1) (s : σ) (hd : Hd) : bud s ≤ bud (hsN f s hd) + hsC hd := by
 have h1 := exN_bud h s hd.e
 have h2 := exN_bud h (exN f s hd.e) hd.f
 have h3 := cnN_bud h (f2 := fun s _ => s) (fun _ _ => Nat.le_refl _) (exN f (exN f s hd.e) hd.f) hd.c
 have h4 := agN_bud h hd.args (cnN f (fun s _ => s) (exN f (exN f s hd.e) hd.f) hd.c)
 unfold hsN hsC
 omega
theorem AgsAt.atS {w : World} {S : Nat → Prop} {l : List Ag} {A : Option Addr} {c : Nat} (h : AgsAt w S l (.slice A l.length c)) {k : Nat} (hk : k < l.length) :
  ∃ b off ve, A = some ⟨b, off, none⟩ ∧ w.cell? ⟨b, off + k * 3, none⟩ = some (.bool l[k].ptr) ∧ w.cell? ⟨b, off + k * 3 + 1, none⟩ = some (.string (strV l[k].nm)) ∧ w.cell? ⟨b, off + k * 3 + 2, none⟩ = some ve ∧ ExAt w S l[k].e ve ∧ l[k].nm.length ≤ 4096 := by
 obtain ⟨A', c', vs, e, -, -, hr, hc⟩ := h
 injection e with e1 e2 e3
 subst e1
 obtain ⟨ve, a1, a2, a3, a4, a5⟩ := hc.at_ hk
 have hne : vs ≠ [] := fun e => by rw [e] at a1; cases a1
 obtain ⟨b, off, e, -, hcell⟩ := hr hne
 exact ⟨b, off, ve, e, by have := hcell _ _ a1; simpa using this, by have := hcell _ _ a2; rw [Nat.add_assoc]; exact this, by have := hcell _ _ a3; rw [Nat.add_assoc]; exact this, a4, a5⟩
/-- exprs under way: the visitor in block gv, the statement in block gs. -/
structure Exs (m : Option Nat) (M : List (Option Nat)) (gv gs : Nat) (cs : Array Value) (w0 w : World) : Prop where
 hv : Holds w gv 63 #[.map m]
 hs : Holds w gs 38 cs
 gm : NotOf M gv
 sm : NotOf M gs
 wr : Writes M w0 w
theorem Exs.wr_ {m : Option Nat} {M : List (Option Nat)} {gv gs : Nat} {cs : Array Value} {w0 w w' : World} (h : Exs m M gv gs cs w0 w) (hW : Writes M w w') : Exs m M gv gs cs w0 w' := ⟨hW.holds h.hv h.gm, hW.holds h.hs h.sm, h.gm, h.sm, h.wr.trans hW⟩
theorem Exs.facts {m : Option Nat} {M : List (Option Nat)} {gv gs : Nat} {w0 w : World} {h : Hd} {pe pf pc Aa At Al : Option Addr} {na ca nt ct nl cl : Nat} (H : Exs m M gv gs (stC h pe pf pc Aa At Al na ca nt ct nl cl) w0 w) :
  w.cell? ⟨gv, 0, none⟩ = some (.map m) ∧ gv < w.heap.size ∧ gs < w.heap.size ∧ w.cell? ⟨gs, 3, none⟩ = some (.pointer pe) ∧ w.cell? ⟨gs, 4, none⟩ = some (.pointer pf) ∧ w.cell? ⟨gs, 5, none⟩ = some (.pointer pc) ∧ w.cell? ⟨gs, 6, none⟩ = some (.slice Aa na ca) :=
 ⟨H.hv.cell 0, H.hv.lt, H.hs.lt, H.hs.cell 3, H.hs.cell 4, H.hs.cell 5, H.hs.cell 6⟩
theorem AgsAt.wr {w w' : World} {M : List (Option Nat)} {l : List Ag} {v : Value} (h : AgsAt w (NotOf M) l v) (hW : Writes M w w') : AgsAt w' (NotOf M) l v := h.keep fun x hx hS => hW.block x hx hS
set_option maxRecDepth 100000 in
set_option maxHeartbeats 4000000 in
theorem exprs_any {k : Nat} {first cap : Array Value} {M : List (Option Nat)} {σ : Type} {I : σ → World → Prop} {f : σ → List UInt8 → σ} {bud : σ → Nat} (hk : SnkB k first cap M I f bud) (m : Option Nat) (w : World) (s : σ) (h : Hd) (pe pf pc Aa At Al : Option Addr) (na ca nt ct nl cl : Nat)
  (H : HdAt w (NotOf M) h (.pointer pe) (.pointer pf) (.pointer pc) (.slice Aa na ca)) (hB : hsC h ≤ bud s) (hI : I s w) :
  Calls Try.prog 36 #[.agg #[.map m], .agg (stC h pe pf pc Aa At Al na ca nt ct nl cl), .func (.func k) first cap] w fun e' w' => e' = .returned (.tuple #[]) ∧ I (hsN f s h) w' ∧ Writes M w w' := by
 obtain ⟨w2, hw2⟩ : ∃ y, y = (w.alloc (.cells #[.map m] 63)).alloc (.cells (stC h pe pf pc Aa At Al na ca nt ct nl cl) 38) := ⟨_, rfl⟩
 obtain ⟨gv, hgv⟩ : ∃ y, y = w.heap.size := ⟨_, rfl⟩
 obtain ⟨gs, hgs⟩ : ∃ y, y = w.heap.size + 1 := ⟨_, rfl⟩
 have hb2 : Below w.heap.size w w2 := by rw [hw2]; exact ((Below.refl _ _).alloc (Nat.le_refl _) _).alloc (by simp) _
 have hlow := fun g hg => hk.low s w g hI hg
 have hX : Exs m M gv gs (stC h pe pf pc Aa At Al na ca nt ct nl cl) w w2 := by
  refine ⟨?_, ?_, fun hm => by have := hlow gv hm; omega, fun hm => by have := hlow gs hm; omega, Writes.of_below hb2 M⟩
  ·rw [hw2, hgv]; exact (Holds.new w _ _).alloc _
  ·rw [hw2, hgs]
   have h1 := Holds.new (w.alloc (.cells #[.map m] 63)) 38 (stC h pe pf pc Aa At Al na ca nt ct nl cl)
   rw [show (w.alloc (.cells #[.map m] 63)).heap.size = w.heap.size + 1 by simp] at h1
   exact h1
 have hna : na = h.args.length ∧ na ≤ 100000 := by
  obtain ⟨A, c, vs, e, l1, l2, -, -⟩ := H.a
  injection e with e1 e2 e3
  exact ⟨e2, by rw [e2]; exact l1⟩
 obtain ⟨hna1, hna2⟩ := hna
 have hn := Lib.hid hna1
 have hE := Lib.hid (H.e.below hb2)
 have hF := Lib.hid (H.f.below hb2)
 have hC := Lib.hid (H.c.keep fun x hx _ => hb2.block x hx)
 have hA := Lib.hid (H.a.keep fun x hx _ => hb2.block x hx)
 have hI2 := Lib.hid (hk.keep s w w2 hI hb2)
 obtain ⟨sR, hsR⟩ : ∃ y, y = hsN f s h := ⟨_, rfl⟩
 have hbe : Hid ((exL h.e).length ≤ bud s) := Lib.hid (by unfold hsC at hB; omega)
 have hbf : Hid ((exL h.f).length ≤ bud (exN f s h.e)) := Lib.hid (by unfold hsC at hB; have h1 := exN_bud hk.step s h.e; omega)
 have hbc : Hid ((cnL h.c).length ≤ bud (exN f (exN f s h.e) h.f)) := Lib.hid (by unfold hsC at hB; have h1 := exN_bud hk.step s h.e; have h2 := exN_bud hk.step (exN f s h.e) h.f; omega)
 have hba : Hid ((agR h.args).length ≤ bud (cnN f (fun s _ => s) (exN f (exN f s h.e) h.f) h.c)) := Lib.hid (by
  unfold hsC at hB
  have h1 := exN_bud hk.step s h.e
  have h2 := exN_bud hk.step (exN f s h.e) h.f
  have h3 := cnN_bud hk.step (f2 := fun s _ => s) (fun _ _ => Nat.le_refl _) (exN f (exN f s h.e) h.f) h.c
  omega)
 have hR : Hid (agN f (cnN f (fun s _ => s) (exN f (exN f s h.e) h.f) h.c) h.args = sR) := Lib.hid (by rw [hsR]; rfl)
 rw [← hsR]
 have hX' := Lib.hid hX
 have hfo := Lib.hid hw2.symm
 have hgv' := Lib.hid hgv.symm
 have hgs' := Lib.hid hgs.symm
 have hno := noop_snk hk
 unfold stC at hfo
 clear hw2 hgv hgs hb2 hlow hX hna1 H hB hI hsR
 unfold stC
 go_enter Try.func36, Try.ntmps36
 go_upto_region 1 with (fail)
 rw [hfo.out, hgs'.out, hgv'.out]
 clear hfo hgv' hgs'
 obtain ⟨qv, qvl, qsl, q3, q4, q5, q6⟩ := hX'.out.facts
 go_wp2_with fail
 refine (exprB_any hk m h.e w2 s _ hE.out hbe.out hI2.out).mono ?_
 rintro e w3 ⟨rfl, hI3, hW3⟩
 have hX3 := Lib.hid (hX'.out.wr_ hW3)
 have hF3 := Lib.hid (hF.out.wr hW3)
 have hC3 := Lib.hid (hC.out.wr hW3)
 have hA3 := Lib.hid (hA.out.wr hW3)
 replace hI3 := Lib.hid hI3
 clear hW3 hE hF hC hA hX' hI2 hbe qv qvl qsl q3 q4 q5 q6
 obtain ⟨qv, qvl, qsl, q3, q4, q5, q6⟩ := hX3.out.facts
 go_wp2_with fail
 refine (exprB_any hk m h.f w3 _ _ hF3.out hbf.out hI3.out).mono ?_
 rintro e w4 ⟨rfl, hI4, hW4⟩
 have hX4 := Lib.hid (hX3.out.wr_ hW4)
 have hC4 := Lib.hid (hC3.out.wr hW4)
 have hA4 := Lib.hid (hA3.out.wr hW4)
 replace hI4 := Lib.hid hI4
 clear hW4 hF3 hC3 hA3 hX3 hI3 hbf qv qvl qsl q3 q4 q5 q6
 obtain ⟨qv, qvl, qsl, q3, q4, q5, q6⟩ := hX4.out.facts
 go_wp2_with fail
 refine (vcondB_any hk hno (fun _ _ => Nat.le_refl _) m h.c w4 _ _ hC4.out hbc.out hI4.out).mono ?_
 rintro e w5 ⟨rfl, hI5, hW5⟩
 have hX5 := Lib.hid (hX4.out.wr_ hW5)
 have hA5 := Lib.hid (hA4.out.wr hW5)
 obtain ⟨s5, hs5⟩ : ∃ y, y = cnN f (fun s _ => s) (exN f (exN f s h.e) h.f) h.c := ⟨_, rfl⟩
 rw [← hs5] at hI5 hba hR
 replace hI5 := Lib.hid hI5
 obtain ⟨l, hl⟩ : ∃ y, y = h.args := ⟨_, rfl⟩
 rw [← hl] at hba hR hA5 hn
 clear hs5 hl hW5 hC4 hA4 hX4 hI4 hbc qv qvl qsl q3 q4 q5 q6
 obtain ⟨qv, qvl, qsl, q3, q4, q5, q6⟩ := hX5.out.facts
 have hstart : Hid (agN f s5 (l.drop 0) = sR ∧ (agR (l.drop 0)).length ≤ bud s5) := Lib.hid ⟨by rw [List.drop_zero]; exact hR.out, by rw [List.drop_zero]; exact hba.out⟩
 clear hR hba
 go_wp2_with fail
 clear qv qvl qsl q3 q4 q5 q6
 go_loopw [26] (fun i wl => ∃ (j : Nat) (sj : σ), j ≤ na ∧ i = .int .i64 j ∧ Hid (agN f sj (l.drop j) = sR ∧ (agR (l.drop j)).length ≤ bud sj) ∧ Hid (I sj wl) ∧ Hid (Exs m M gv gs (stC h pe pf pc Aa At Al na ca nt ct nl cl) w wl) ∧ Hid (AgsAt wl (NotOf M) l (.slice Aa na ca))) (fun i _ => na - (intOf i).toNat)
 case atStart => exact ⟨0, s5, by omega, rfl, hstart, hI5, hX5, hA5⟩
 clear hstart hI5 hX5 hA5
 obtain ⟨j, sj, hj, rfl, hR, hIj, hX, hA⟩ := hrel
 rename World => wl
 by_cases hlt : j < na
 ·have hjl : j < l.length := by rw [← hn.out]; exact hlt
  have hA2 := hA.out
  rw [hn.out] at hA2
  obtain ⟨b, off, ve, e, c0, c1, c2, hx, hnm⟩ := AgsAt.atS hA2 hjl
  subst e
  obtain ⟨p, rfl⟩ := hx.vp
  have hd : l.drop j = l[j] :: l.drop (j + 1) := List.drop_eq_getElem_cons hjl
  rw [hd] at hR
  have hx2 := Lib.hid hx
  obtain ⟨a, ha⟩ : ∃ a, a = l[j] := ⟨_, rfl⟩
  rw [← ha] at c0 c1 hR hx2 hnm
  clear ha hd hx hA2
  obtain ⟨ap, an, ae⟩ := a
  simp only at c0 c1 hx2 hnm
  obtain ⟨wn, hwn⟩ : ∃ y, y = wl.alloc (.cells #[.bool ap, .string (strV an), .pointer p] 106) := ⟨_, rfl⟩
  obtain ⟨ga, hga⟩ : ∃ y, y = wl.heap.size := ⟨_, rfl⟩
  have hbn : Below wl.heap.size wl wn := by rw [hwn]; exact below_new wl _
  have hHa : Holds wn ga 106 #[.bool ap, .string (strV an), .pointer p] := by rw [hwn, hga]; exact Holds.new wl _ _
  have hWn := Writes.of_below hbn M
  have hXn := Lib.hid (hX.out.wr_ hWn)
  have hAn := Lib.hid (hA.out.wr hWn)
  have hxn := Lib.hid (hx2.out.below hbn)
  have hIn := Lib.hid (hk.keep sj wl wn hIj.out hbn)
  have hfo := Lib.hid hwn.symm
  have hga' := Lib.hid hga.symm
  clear hwn hbn hga hX hx2 hA hIj hWn
  go_upto_region 7 with (fail)
  rw [hga'.out, hfo.out]
  clear hfo hga' c0 c1 c2
  have q0 : wn.cell? ⟨ga, 0, none⟩ = some (.bool ap) := hHa.cell 0
  have q2 : wn.cell? ⟨ga, 2, none⟩ = some (.pointer p) := hHa.cell 2
  have ql := hHa.lt
  obtain ⟨qv, qvl, qsl, q3, q4, q5, q6⟩ := hXn.out.facts
  have hHa' := Lib.hid hHa
  clear hHa qsl q3 q4 q5 q6
  cases ap with
  | true =>
   have hR2 : Hid (agN f sj (l.drop (j + 1)) = sR ∧ (agR (l.drop (j + 1))).length ≤ bud sj) := Lib.hid (by
    obtain ⟨h1, h2⟩ := hR.out
    refine ⟨h1, ?_⟩
    unfold agR at h2 ⊢
    rw [List.flatMap_cons, List.length_append] at h2
    omega)
   clear hR
   go_wp2_with fail
   exact ⟨⟨j + 1, sj, by omega, by simp, hR2, hIn, hXn, hAn⟩, by simp [intOf]; omega⟩
  | false =>
   have hR2 : Hid (agN f (exN f sj ae) (l.drop (j + 1)) = sR ∧ (agR (l.drop (j + 1))).length ≤ bud (exN f sj ae)) := Lib.hid (by
    obtain ⟨h1, h2⟩ := hR.out
    refine ⟨h1, ?_⟩
    have h3 := exN_bud hk.step sj ae
    unfold agR at h2 ⊢
    rw [List.flatMap_cons, List.length_append] at h2
    simp only at h2
    omega)
   have hbx : Hid ((exL ae).length ≤ bud sj) := Lib.hid (by
    have h2 := hR.out.2
    unfold agR at h2
    rw [List.flatMap_cons, List.length_append] at h2
    simp only at h2
    omega)
   clear hR
   go_wp2_with fail
   refine (exprB_any hk m ae wn sj _ hxn.out hbx.out hIn.out).mono ?_
   rintro e wm ⟨rfl, hI6, hW6⟩
   have hX6 := Lib.hid (hXn.out.wr_ hW6)
   have hA6 := Lib.hid (hAn.out.wr hW6)
   replace hI6 := Lib.hid hI6
   clear hW6 hXn hAn hxn hIn hbx q0 q2 ql qv qvl hHa'
   go_wp2_with fail
   exact ⟨⟨j + 1, _, by omega, by simp, hR2, hI6, hX6, hA6⟩, by simp [intOf]; omega⟩
 ·obtain rfl : j = na := by omega
  have hF : Hid (sj = sR) := Lib.hid (by have h1 := hR.out.1; rw [List.drop_of_length_le (by rw [← hn.out]; exact Nat.le_refl _)] at h1; exact h1)
  clear hR hA
  go_wp2_with fail
  go_end0
  exact ⟨rfl, by rw [← hF.out]; exact hIj.out, hX.out.wr⟩
end Go.Proofs.Ytpndglghpojjkaa
/- The chapter's example, plainly: what is read, resolved, named. No program in sight. -/
namespace Go.Proofs.Ytpndglghpojjkaa

def knT : List UInt8 := [102, 110, 32, 102, 40, 42, 112, 41, 32, 123, 32, 112, 116, 114, 32, 113, 59, 32, 113, 32, 61, 32, 112, 59, 32, 99, 32, 61, 32, 103, 40, 49, 41, 59, 32, 125]
def knF : Fnc := (funcF knT).1
theorem kn_func : funcF knT = (knF, 0, 0) := by kernel_rfl
def knR : Fnc := (resolveP knF [102]).1
theorem kn_res : resolveP knF [102] = (knR, 0, 0) := by kernel_rfl
theorem kn_not : resolveP knF [103] = (Fnc.none, -1, 62) := by kernel_rfl
theorem kn_len : knR.body.len = 2 := by kernel_rfl
def headOf : Sl → Hd
 | .nil => hd0 0
 | .cons h _ _ _ => h
theorem kn_head : (headOf knR.body).k = 2 ∧ (headOf knR.body).y = [112] := ⟨by kernel_rfl, by kernel_rfl⟩
theorem kn_cost : cstS (fun h => hsC h + 1) knR.body ≤ 500000 := of_decide_eq_true (by kernel_rfl)
theorem kn_cost1 : cstS (fun _ => 1) knR.body ≤ 500000 := of_decide_eq_true (by kernel_rfl)
theorem canon_one (x : S) : canon [x] = [x] := canon_of (List.pairwise_singleton _ _) fun _ => Iff.rfl
theorem kn_cells : canon (each (hdP (kindV (knR.ps ++ knR.ls))) knR.body) = [[99]] := by
 rw [show each (hdP (kindV (knR.ps ++ knR.ls))) knR.body = [[99]] by kernel_rfl]
 exact canon_one _
theorem kn_calls : canon (each (globs (kindV (knR.ps ++ knR.ls)) calH) knR.body) = [[103]] := by
 rw [show each (globs (kindV (knR.ps ++ knR.ls)) calH) knR.body = [[103]] by kernel_rfl]
 exact canon_one _
theorem kn_twice : dupB [[97], [97]] = true := by kernel_rfl
end Go.Proofs.Ytpndglghpojjkaa
/- Package augurhelp: expressions and conditions that are the same are told to be so. -/
namespace Go.Proofs.Ytpndglghpojjkaa
open Go.RowKit Go.Deep

theorem ExAt.drawn {w : World} {S : Nat → Prop} {e : Ex} {v : Value} (h : ExAt w S e v) (n : Nat) : ExAt (w.drewN n) S e v := ExAt.keep (w := w) (w' := w.drewN n) (fun _ _ _ => rfl) h
theorem CnAt.drawn {w : World} {S : Nat → Prop} {e : Cn} {v : Value} (h : CnAt w S e v) (n : Nat) : CnAt (w.drewN n) S e v := CnAt.keep (w := w) (w' := w.drewN n) (fun _ _ _ => rfl) h
set_option maxRecDepth 100000 in
set_option maxHeartbeats 2000000 in
theorem hexpr_any : ∀ (e : Ex) (w : World) (v v' : Value), ExAt w Evr e v → ExAt w Evr e v' →
  Calls Try.prog 74 #[v, v'] w fun e' w' => e' = .returned (.bool true) ∧ ∃ n, w' = w.drewN n
 | .nil, w, v, v', h, h' => by
  obtain rfl : v = .pointer none := h
  obtain rfl : v' = .pointer none := h'
  go_enter Try.func74, Try.ntmps74
  go_wp2_with fail
  go_ret
  exact ⟨rfl, 0, rfl⟩
 | .mk k n nm a b, w, v, v', h, h' => by
  obtain ⟨g, va, vb, rfl, -, hn, hk, hH, ha, hb⟩ := h
  obtain ⟨g', va', vb', rfl, -, -, -, hH', ha', hb'⟩ := h'
  have q0 : w.cell? ⟨g, 0, none⟩ = some (.int .i64 k) := hH.cell 0
  have q1 : w.cell? ⟨g, 1, none⟩ = some (.int .i64 n) := hH.cell 1
  have q2 : w.cell? ⟨g, 2, none⟩ = some (.string (strV nm)) := hH.cell 2
  have q3 : w.cell? ⟨g, 3, none⟩ = some va := hH.cell 3
  have q4 : w.cell? ⟨g, 4, none⟩ = some vb := hH.cell 4
  have p0 : w.cell? ⟨g', 0, none⟩ = some (.int .i64 k) := hH'.cell 0
  have p1 : w.cell? ⟨g', 1, none⟩ = some (.int .i64 n) := hH'.cell 1
  have p2 : w.cell? ⟨g', 2, none⟩ = some (.string (strV nm)) := hH'.cell 2
  have p3 : w.cell? ⟨g', 3, none⟩ = some va' := hH'.cell 3
  have p4 : w.cell? ⟨g', 4, none⟩ = some vb' := hH'.cell 4
  have ca := Lib.hid fun n => hexpr_any a (w.drewN n) va va' (ha.drawn n) (ha'.drawn n)
  have cb := Lib.hid fun n => hexpr_any b (w.drewN n) vb vb' (hb.drawn n) (hb'.drawn n)
  obtain ⟨pa, rfl⟩ := ha.vp
  obtain ⟨pb, rfl⟩ := hb.vp
  obtain ⟨pa', rfl⟩ := ha'.vp
  obtain ⟨pb', rfl⟩ := hb'.vp
  clear ha hb ha' hb' hH hH'
  go_enter Try.func74, Try.ntmps74
  go_wp2_with fail
  go_quiet ((go_at_call 74; (first | with_reducible exact Calls.quiet_of (ca.out _) | with_reducible exact Calls.quiet_of (cb.out _))))
  go_wp2_with fail
  go_ret
  exact ⟨rfl, _, rfl⟩
set_option maxRecDepth 100000 in
set_option maxHeartbeats 2000000 in
theorem hcond_any : ∀ (e : Cn) (w : World) (v v' : Value), CnAt w Evr e v → CnAt w Evr e v' →
  Calls Try.prog 75 #[v, v'] w fun e' w' => e' = .returned (.bool true) ∧ ∃ n, w' = w.drewN n
 | .nil, w, v, v', h, h' => by
  obtain rfl : v = .pointer none := h
  obtain rfl : v' = .pointer none := h'
  go_enter Try.func75, Try.ntmps75
  go_wp2_with fail
  go_ret
  exact ⟨rfl, 0, rfl⟩
 | .mk k a b p q nm, w, v, v', h, h' => by
  obtain ⟨g, va, vb, vp, vq, rfl, -, hn, hk, hH, ha, hb, hp, hq⟩ := h
  obtain ⟨g', va', vb', vp', vq', rfl, -, -, -, hH', ha', hb', hp', hq'⟩ := h'
  have q0 : w.cell? ⟨g, 0, none⟩ = some (.int .i64 k) := hH.cell 0
  have q1 : w.cell? ⟨g, 1, none⟩ = some va := hH.cell 1
  have q2 : w.cell? ⟨g, 2, none⟩ = some vb := hH.cell 2
  have q3 : w.cell? ⟨g, 3, none⟩ = some vp := hH.cell 3
  have q4 : w.cell? ⟨g, 4, none⟩ = some vq := hH.cell 4
  have q5 : w.cell? ⟨g, 5, none⟩ = some (.string (strV nm)) := hH.cell 5
  have p0 : w.cell? ⟨g', 0, none⟩ = some (.int .i64 k) := hH'.cell 0
  have p1 : w.cell? ⟨g', 1, none⟩ = some va' := hH'.cell 1
  have p2 : w.cell? ⟨g', 2, none⟩ = some vb' := hH'.cell 2
  have p3 : w.cell? ⟨g', 3, none⟩ = some vp' := hH'.cell 3
  have p4 : w.cell? ⟨g', 4, none⟩ = some vq' := hH'.cell 4
  have p5 : w.cell? ⟨g', 5, none⟩ = some (.string (strV nm)) := hH'.cell 5
  have ca := Lib.hid fun n => hexpr_any a (w.drewN n) va va' (ha.drawn n) (ha'.drawn n)
  have cb := Lib.hid fun n => hexpr_any b (w.drewN n) vb vb' (hb.drawn n) (hb'.drawn n)
  have cp := Lib.hid fun n => hcond_any p (w.drewN n) vp vp' (hp.drawn n) (hp'.drawn n)
  have cq := Lib.hid fun n => hcond_any q (w.drewN n) vq vq' (hq.drawn n) (hq'.drawn n)
  obtain ⟨pa, rfl⟩ := ha.vp
  obtain ⟨pb, rfl⟩ := hb.vp
  obtain ⟨pa', rfl⟩ := ha'.vp
  obtain ⟨pb', rfl⟩ := hb'.vp
  obtain ⟨pp, rfl⟩ : ∃ x, vp = .pointer x := by cases p with | nil => exact ⟨_, hp⟩ | mk => obtain ⟨g, _, _, _, _, e, _⟩ := hp; exact ⟨_, e⟩
  obtain ⟨pp', rfl⟩ : ∃ x, vp' = .pointer x := by cases p with | nil => exact ⟨_, hp'⟩ | mk => obtain ⟨g, _, _, _, _, e, _⟩ := hp'; exact ⟨_, e⟩
  obtain ⟨pq, rfl⟩ : ∃ x, vq = .pointer x := by cases q with | nil => exact ⟨_, hq⟩ | mk => obtain ⟨g, _, _, _, _, e, _⟩ := hq; exact ⟨_, e⟩
  obtain ⟨pq', rfl⟩ : ∃ x, vq' = .pointer x := by cases q with | nil => exact ⟨_, hq'⟩ | mk => obtain ⟨g, _, _, _, _, e, _⟩ := hq'; exact ⟨_, e⟩
  clear ha hb ha' hb' hH hH' hp hp' hq hq'
  go_enter Try.func75, Try.ntmps75
  go_wp2_with fail
  go_quiet ((first | (go_at_call 74; (first | with_reducible exact Calls.quiet_of (ca.out _) | with_reducible exact Calls.quiet_of (cb.out _))) | (go_at_call 75; (first | with_reducible exact Calls.quiet_of (cp.out _) | with_reducible exact Calls.quiet_of (cq.out _)))))
  go_wp2_with fail
  go_ret
  exact ⟨rfl, _, rfl⟩
end Go.Proofs.Ytpndglghpojjkaa
/- Package names: which cells, arrays, functions a function names. -/
namespace Go.Proofs.Ytpndglghpojjkaa
open Go.RowKit Go.Deep

theorem exN_addG (K : List UInt8 → Nat) : ∀ (s : List S) (e : Ex), exN (addG K) s e = s ++ (exL e).filter fun x => K x == 0
 | s, .nil => by simp [exN, exL]
 | s, .mk k n x a b => by
  unfold exN exL
  rw [exN_addG K _ b, exN_addG K _ a]
  by_cases hk : k = 1
  ·rw [if_pos hk, if_pos hk]
   unfold addG
   by_cases hx : K x = 0
   ·rw [if_pos hx]; simp [hx]
   ·rw [if_neg hx]; simp [hx]
  ·rw [if_neg hk, if_neg hk]; simp
theorem cnN_addG (K : List UInt8 → Nat) : ∀ (s : List S) (e : Cn), cnN (addG K) (fun s _ => s) s e = s ++ (cnL e).filter fun x => K x == 0
 | s, .nil => by simp [cnN, cnL]
 | s, .mk k a b p q x => by
  unfold cnN cnL
  rw [cnN_addG K _ q, cnN_addG K _ p, exN_addG K _ b, exN_addG K _ a]
  simp
theorem agN_addG (K : List UInt8 → Nat) : ∀ (l : List Ag) (s : List S), agN (addG K) s l = s ++ (agP l).filter fun x => K x == 0
 | [], s => by simp [agN, agP]
 | a :: l, s => by
  have e1 : agN (addG K) s (a :: l) = agN (addG K) (if a.ptr then s else exN (addG K) s a.e) l := rfl
  have e2 : agP (a :: l) = (if a.ptr then [] else exL a.e) ++ agP l := by unfold agP; rw [List.flatMap_cons]
  rw [e1, e2, agN_addG K l, exN_addG, List.filter_append, ← List.append_assoc]
  congr 1
  split <;> simp
def cellsS (K : List UInt8 → Nat) (s : List S) (h : Hd) : List S :=
 if h.k = 0 ∨ h.k = 4 ∨ h.k = 6 then addG K (hsN (addG K) s h) h.x
 else if h.k = 8 then (if h.x = [] then hsN (addG K) s h else addG K (hsN (addG K) s h) h.x)
 else if h.k = 1 then addG K (hsN (addG K) s h) h.y
 else hsN (addG K) s h
def calsS (K : List UInt8 → Nat) (s : List S) (h : Hd) : List S := if h.k = 8 then addG K s h.y else s
def cellsD (K : List UInt8 → Nat) (s : List S) (h : Hd) : List S × Bool := (cellsS K s h, true)
def calsD (K : List UInt8 → Nat) (s : List S) (h : Hd) : List S × Bool := (calsS K s h, true)
theorem addG_app (K : List UInt8 → Nat) (s : List S) (x : S) : addG K s x = s ++ [x].filter fun x => K x == 0 := by
 unfold addG
 by_cases hx : K x = 0
 ·rw [if_pos hx]; simp [hx]
 ·rw [if_neg hx]; simp [hx]
theorem cellsS_app (K : List UInt8 → Nat) (s : List S) (h : Hd) : cellsS K s h = s ++ hdP K h := by
 have e0 : hsN (addG K) s h = s ++ (exL h.e ++ (exL h.f ++ (cnL h.c ++ agP h.args))).filter fun x => K x == 0 := by
  unfold hsN
  rw [agN_addG, cnN_addG, exN_addG, exN_addG]
  simp
 unfold cellsS hdP ownP
 rw [e0]
 by_cases h0 : h.k = 0 ∨ h.k = 4 ∨ h.k = 6
 ·rw [if_pos h0, if_pos h0, addG_app]; simp
 ·rw [if_neg h0, if_neg h0]
  by_cases h8 : h.k = 8
  ·rw [if_pos h8, if_pos h8]
   by_cases hx : h.x = []
   ·rw [if_pos hx, if_pos hx]; simp
   ·rw [if_neg hx, if_neg hx, addG_app]; simp
  ·rw [if_neg h8, if_neg h8]
   by_cases h1 : h.k = 1
   ·rw [if_pos h1, if_pos h1, addG_app]; simp
   ·rw [if_neg h1, if_neg h1]; simp
theorem calsS_app (K : List UInt8 → Nat) (s : List S) (h : Hd) : calsS K s h = s ++ globs K calH h := by
 unfold calsS globs calH
 split
 ·rw [addG_app]
 ·simp
theorem vis_each {d : List S → Hd → List S × Bool} {g : Hd → List S} (h : ∀ s y, d s y = (s ++ g y, true)) : ∀ (l : Sl) (s : List S), vis d s l = (s ++ each g l, true)
 | .nil, s => by simp [vis, each]
 | .cons y t e r, s => by
  unfold vis each
  rw [h]
  simp only [if_true]
  rw [vis_each h t, if_pos rfl, vis_each h e, if_pos rfl, vis_each h r]
  simp
/-- What Cells, Arrays, Calls hand to their visitor: the collector in block gc. -/
structure CcI (gc m fm : Nat) (K : List UInt8 → Nat) (s : List S) (w : World) : Prop where
 ci : ClI m fm K s w
 hc : Holds w gc 75 #[.map (some m), .map (some fm)]
theorem CcI.below {gc m fm : Nat} {K : List UInt8 → Nat} {s : List S} {w w' : World} (h : CcI gc m fm K s w) (hb : Below w.heap.size w w') : CcI gc m fm K s w' := ⟨h.ci.below hb, h.hc.below hb h.hc.lt⟩
theorem CcI.apart {gc m fm : Nat} {K : List UInt8 → Nat} {s : List S} {w : World} (h : CcI gc m fm K s w) : gc ≠ fm := h.ci.fs.noblk (h.hc.cell 0)
theorem CcI.next {gc m fm : Nat} {K : List UInt8 → Nat} {s s' : List S} {w w' : World} (h : CcI gc m fm K s w) (h2 : ClI m fm K s' w') (hW : Writes [some fm] w w') : CcI gc m fm K s' w' := ⟨h2, hW.holds h.hc (by simp; exact h.apart)⟩
theorem CcI.facts {gc m fm : Nat} {K : List UInt8 → Nat} {s : List S} {w : World} (h : CcI gc m fm K s w) : w.cell? ⟨gc, 0, none⟩ = some (.map (some m)) ∧ w.cell? ⟨gc, 1, none⟩ = some (.map (some fm)) ∧ gc < w.heap.size := ⟨h.hc.cell 0, h.hc.cell 1, h.hc.lt⟩
theorem stC_facts {w : World} {g : Nat} {h : Hd} {pe pf pc Aa At Al : Option Addr} {na ca nt ct nl cl : Nat} (H : Holds w g 38 (stC h pe pf pc Aa At Al na ca nt ct nl cl)) : w.cell? ⟨g, 0, none⟩ = some (.int .i64 h.k) ∧ w.cell? ⟨g, 1, none⟩ = some (.string (strV h.x)) ∧ w.cell? ⟨g, 2, none⟩ = some (.string (strV h.y)) ∧ w.cell? ⟨g, 3, none⟩ = some (.pointer pe) ∧ w.cell? ⟨g, 4, none⟩ = some (.pointer pf) ∧ w.cell? ⟨g, 5, none⟩ = some (.pointer pc) ∧ w.cell? ⟨g, 6, none⟩ = some (.slice Aa na ca) ∧ w.cell? ⟨g, 7, none⟩ = some (.slice At nt ct) ∧ w.cell? ⟨g, 8, none⟩ = some (.slice Al nl cl) ∧ w.cell? ⟨g, 9, none⟩ = some (.int .i64 h.at_) ∧ g < w.heap.size :=
 ⟨H.cell 0, H.cell 1, H.cell 2, H.cell 3, H.cell 4, H.cell 5, H.cell 6, H.cell 7, H.cell 8, H.cell 9, H.lt⟩
set_option maxRecDepth 100000 in
set_option maxHeartbeats 4000000 in
theorem cells1_any (gc m fm : Nat) (K : List UInt8 → Nat) (s : List S) (h : Hd) (w : World) (pe pf pc Aa At Al : Option Addr) (na ca nt ct nl cl : Nat) (H : HdAt w (NotOf [some fm]) h (.pointer pe) (.pointer pf) (.pointer pc) (.slice Aa na ca)) (hB : hsC h + 1 ≤ budL s) (hI : CcI gc m fm K s w) :
  Calls Try.prog 35 #[.agg (stC h pe pf pc Aa At Al na ca nt ct nl cl), .pointer (some ⟨gc, 0, none⟩)] w fun e w' => e = .returned (.bool true) ∧ CcI gc m fm K (cellsS K s h) w' ∧ Writes [some fm] w w' := by
 obtain ⟨sR, hsR⟩ : ∃ y, y = cellsS K s h := ⟨_, rfl⟩
 rw [← hsR]
 have hS0 := Lib.hid hsR
 clear hsR
 obtain ⟨w1, hw1⟩ : ∃ y, y = w.alloc (.cells (stC h pe pf pc Aa At Al na ca nt ct nl cl) 38) := ⟨_, rfl⟩
 obtain ⟨g, hg⟩ : ∃ y, y = w.heap.size := ⟨_, rfl⟩
 have hb1 : Below w.heap.size w w1 := by rw [hw1]; exact below_new w _
 have hH1 : Holds w1 g 38 (stC h pe pf pc Aa At Al na ca nt ct nl cl) := by rw [hw1, hg]; exact Holds.new w _ _
 have hgf : Hid (g ≠ fm) := Lib.hid (by have := hI.ci.fs.lt; omega)
 have hI1 := Lib.hid (hI.below hb1)
 have hHd := Lib.hid (H.below hb1)
 have hW1 := Lib.hid (Writes.of_below hb1 [some fm])
 have hxl := H.x
 have hyl := H.y
 have hkl := H.k
 have hH1' := Lib.hid hH1
 have hfo := Lib.hid hw1.symm
 have hg' := Lib.hid hg.symm
 have hB' := Lib.hid hB
 unfold stC at hfo
 clear hw1 hg hb1 hI H hH1 hB
 unfold stC
 go_enter Try.func35, Try.ntmps35
 go_upto_region 1 with (fail)
 rw [hfo.out, hg'.out]
 clear hfo hg'
 obtain ⟨q0, q1, q2, q3, q4, q5, q6, q7, q8, q9, ql⟩ := stC_facts hH1'.out
 obtain ⟨p0, p1, pl⟩ := hI1.out.facts
 go_wp2_with fail
 have hbs := hsN_bud (f := addG K) (bud := budL) (addG_snk m fm K).step s h
 have hbs1 : Hid ((hsN (addG K) s h).length < 500000) := Lib.hid (by have h1 := hB'.out; unfold budL at hbs h1; omega)
 clear hbs
 refine (exprs_any (addG_snk m fm K) (some m) w1 s h pe pf pc Aa At Al na ca nt ct nl cl hHd.out (by have := hB'.out; omega) hI1.out.ci).mono ?_
 rintro e w2 ⟨rfl, hI2, hW2⟩
 have hI3 := Lib.hid (hI1.out.next hI2 hW2)
 have hH3 := Lib.hid (hW2.holds hH1'.out (by simp; exact hgf.out))
 have hW3 := Lib.hid (hW1.out.trans hW2)
 clear hI2 hW2 hH1' hI1 hHd hW1 hB' q0 q1 q2 q3 q4 q5 q6 q7 q8 q9 ql p0 p1 pl
 obtain ⟨s1, hs1⟩ : ∃ y, y = hsN (addG K) s h := ⟨_, rfl⟩
 rw [← hs1] at hI3 hbs1
 have hSS : Hid (sR = if h.k = 0 ∨ h.k = 4 ∨ h.k = 6 then addG K s1 h.x else if h.k = 8 then (if h.x = [] then s1 else addG K s1 h.x) else if h.k = 1 then addG K s1 h.y else s1) := Lib.hid (by rw [hS0.out, hs1]; rfl)
 clear hs1 hS0
 obtain ⟨q0, q1, q2, q3, q4, q5, q6, q7, q8, q9, ql⟩ := stC_facts hH3.out
 obtain ⟨p0, p1, pl⟩ := hI3.out.facts
 clear q3 q4 q5 q6 q7 q8 q9
 obtain ⟨k, x, y, he_, hf_, hc_, hg_, ht_⟩ := h
 simp only at q0 q1 q2 hxl hyl hkl hSS
 rcases (show k = 0 ∨ k = 4 ∨ k = 6 ∨ k = 8 ∨ k = 1 ∨ (k ≠ 0 ∧ k ≠ 4 ∧ k ≠ 6 ∧ k ≠ 8 ∧ k ≠ 1) by omega) with rfl | rfl | rfl | rfl | rfl | hk
 ·have hRR : Hid (sR = addG K s1 x) := Lib.hid (by rw [hSS.out]; simp)
  clear hSS
  go_wp2_with fail
  refine (addG_any w2 m fm K s1 hI3.out.ci x (by omega) hbs1.out).mono ?_
  rintro e w4 ⟨rfl, hI4, hW4⟩
  have hI5 := Lib.hid (hI3.out.next hI4 hW4)
  have hW5 := Lib.hid (hW3.out.trans hW4)
  clear hI4 hW4 hI3 hH3 hW3
  go_wp2_with fail
  go_ret
  exact ⟨rfl, by rw [hRR.out]; exact hI5.out, hW5.out⟩
 ·have hRR : Hid (sR = addG K s1 x) := Lib.hid (by rw [hSS.out]; simp)
  clear hSS
  go_wp2_with fail
  refine (addG_any w2 m fm K s1 hI3.out.ci x (by omega) hbs1.out).mono ?_
  rintro e w4 ⟨rfl, hI4, hW4⟩
  have hI5 := Lib.hid (hI3.out.next hI4 hW4)
  have hW5 := Lib.hid (hW3.out.trans hW4)
  clear hI4 hW4 hI3 hH3 hW3
  go_wp2_with fail
  go_ret
  exact ⟨rfl, by rw [hRR.out]; exact hI5.out, hW5.out⟩
 ·have hRR : Hid (sR = addG K s1 x) := Lib.hid (by rw [hSS.out]; simp)
  clear hSS
  go_wp2_with fail
  refine (addG_any w2 m fm K s1 hI3.out.ci x (by omega) hbs1.out).mono ?_
  rintro e w4 ⟨rfl, hI4, hW4⟩
  have hI5 := Lib.hid (hI3.out.next hI4 hW4)
  have hW5 := Lib.hid (hW3.out.trans hW4)
  clear hI4 hW4 hI3 hH3 hW3
  go_wp2_with fail
  go_ret
  exact ⟨rfl, by rw [hRR.out]; exact hI5.out, hW5.out⟩
 ·by_cases hx : x = []
  ·have hxe : (strV x).toList.isEmpty = true := by rw [strV_toList, hx]; rfl
   have hRR : Hid (sR = s1) := Lib.hid (by rw [hSS.out]; simp [hx])
   clear hSS hx
   go_wp2_with fail
   go_ret
   exact ⟨rfl, by rw [hRR.out]; exact hI3.out, hW3.out⟩
  ·have hxs : ¬ (strV x).toList = [] := by rw [strV_toList]; exact hx
   have hxe : (strV x).toList.isEmpty = false := by rw [strV_toList]; simpa using hx
   have hRR : Hid (sR = addG K s1 x) := Lib.hid (by rw [hSS.out]; simp [hx])
   clear hSS hx
   go_wp2_with fail
   refine (addG_any w2 m fm K s1 hI3.out.ci x (by omega) hbs1.out).mono ?_
   rintro e w4 ⟨rfl, hI4, hW4⟩
   have hI5 := Lib.hid (hI3.out.next hI4 hW4)
   have hW5 := Lib.hid (hW3.out.trans hW4)
   clear hI4 hW4 hI3 hH3 hW3
   go_wp2_with fail
   go_ret
   exact ⟨rfl, by rw [hRR.out]; exact hI5.out, hW5.out⟩
 ·have hRR : Hid (sR = addG K s1 y) := Lib.hid (by rw [hSS.out]; simp)
  clear hSS
  go_wp2_with fail
  refine (addG_any w2 m fm K s1 hI3.out.ci y (by omega) hbs1.out).mono ?_
  rintro e w4 ⟨rfl, hI4, hW4⟩
  have hI5 := Lib.hid (hI3.out.next hI4 hW4)
  have hW5 := Lib.hid (hW3.out.trans hW4)
  clear hI4 hW4 hI3 hH3 hW3
  go_wp2_with fail
  go_ret
  exact ⟨rfl, by rw [hRR.out]; exact hI5.out, hW5.out⟩
 ·obtain ⟨h0, h4, h6, h8, h1⟩ := hk
  have e0 : ((k : Int) == 0) = false := by simp; omega
  have e4 : ((k : Int) == 4) = false := by simp; omega
  have e6 : ((k : Int) == 6) = false := by simp; omega
  have e8 : ((k : Int) == 8) = false := by simp; omega
  have e1 : ((k : Int) == 1) = false := by simp; omega
  have hRR : Hid (sR = s1) := Lib.hid (by rw [hSS.out, if_neg (by omega), if_neg h8, if_neg h1])
  clear hSS h0 h4 h6 h8 h1
  go_wp2_with fail
  go_ret
  exact ⟨rfl, by rw [hRR.out]; exact hI3.out, hW3.out⟩
theorem cells_snk (gc m fm : Nat) (K : List UInt8 → Nat) : StSnkB 35 #[] #[.pointer (some ⟨gc, 0, none⟩)] [some fm] (CcI gc m fm K) (cellsD K) budL (fun h => hsC h + 1) :=
 ⟨enters_of Try.func35 (by kernel_rfl) rfl, fun s h w pe pf pc Aa At Al na ca nt ct nl cl H hB hI => cells1_any gc m fm K s h w pe pf pc Aa At Al na ca nt ct nl cl H hB hI, fun _ _ _ h hb => h.below hb, fun _ _ g h hg => by simp at hg; subst hg; exact h.ci.fs.lt, fun s h => by have h1 := hsN_bud (f := addG K) (bud := budL) (addG_snk m fm K).step s h; have h2 := (addG_snk m fm K).step (hsN (addG K) s h) h.x; have h3 := (addG_snk m fm K).step (hsN (addG K) s h) h.y; unfold cellsD cellsS; simp only; repeat (first | omega | split)⟩
set_option maxRecDepth 100000 in
set_option maxHeartbeats 4000000 in
theorem cals1_any (gc m fm : Nat) (K : List UInt8 → Nat) (s : List S) (h : Hd) (w : World) (pe pf pc Aa At Al : Option Addr) (na ca nt ct nl cl : Nat) (H : HdAt w (NotOf [some fm]) h (.pointer pe) (.pointer pf) (.pointer pc) (.slice Aa na ca)) (hB : 1 ≤ budL s) (hI : CcI gc m fm K s w) :
  Calls Try.prog 32 #[.agg (stC h pe pf pc Aa At Al na ca nt ct nl cl), .pointer (some ⟨gc, 0, none⟩)] w fun e w' => e = .returned (.bool true) ∧ CcI gc m fm K (calsS K s h) w' ∧ Writes [some fm] w w' := by
 obtain ⟨sR, hsR⟩ : ∃ y, y = calsS K s h := ⟨_, rfl⟩
 rw [← hsR]
 have hS0 := Lib.hid hsR
 clear hsR
 obtain ⟨w1, hw1⟩ : ∃ y, y = w.alloc (.cells (stC h pe pf pc Aa At Al na ca nt ct nl cl) 38) := ⟨_, rfl⟩
 obtain ⟨g, hg⟩ : ∃ y, y = w.heap.size := ⟨_, rfl⟩
 have hb1 : Below w.heap.size w w1 := by rw [hw1]; exact below_new w _
 have hH1 : Holds w1 g 38 (stC h pe pf pc Aa At Al na ca nt ct nl cl) := by rw [hw1, hg]; exact Holds.new w _ _
 have hgf : Hid (g ≠ fm) := Lib.hid (by have := hI.ci.fs.lt; omega)
 have hI1 := Lib.hid (hI.below hb1)
 have hHd := Lib.hid (H.below hb1)
 have hW1 := Lib.hid (Writes.of_below hb1 [some fm])
 have hxl := H.x
 have hyl := H.y
 have hkl := H.k
 have hH1' := Lib.hid hH1
 have hfo := Lib.hid hw1.symm
 have hg' := Lib.hid hg.symm
 have hB' := Lib.hid hB
 unfold stC at hfo
 clear hw1 hg hb1 hI H hH1 hB
 unfold stC
 go_enter Try.func32, Try.ntmps32
 go_upto_region 1 with (fail)
 rw [hfo.out, hg'.out]
 clear hfo hg'
 obtain ⟨q0, q1, q2, q3, q4, q5, q6, q7, q8, q9, ql⟩ := stC_facts hH1'.out
 obtain ⟨p0, p1, pl⟩ := hI1.out.facts
 have hI3 := hI1
 have hH3 := hH1'
 have hW3 := hW1
 have hbs1 : Hid (s.length < 500000) := Lib.hid (by have h1 := hB'.out; unfold budL at h1; omega)
 have hSS : Hid (sR = if h.k = 8 then addG K s h.y else s) := Lib.hid (by rw [hS0.out]; rfl)
 clear hS0 q3 q4 q5 q6 q7 q8 q9 hHd hI1 hH1' hW1 hB'
 obtain ⟨k, x, y, he_, hf_, hc_, hg_, ht_⟩ := h
 simp only at q0 q1 q2 hxl hyl hkl hSS
 by_cases h8 : k = 8
 ·subst h8
  have hRR : Hid (sR = addG K s y) := Lib.hid (by rw [hSS.out]; simp)
  clear hSS
  go_wp2_with fail
  refine (addG_any w1 m fm K s hI3.out.ci y (by omega) hbs1.out).mono ?_
  rintro e w4 ⟨rfl, hI4, hW4⟩
  have hI5 := Lib.hid (hI3.out.next hI4 hW4)
  have hW5 := Lib.hid (hW3.out.trans hW4)
  clear hI4 hW4 hI3 hH3 hW3
  go_wp2_with fail
  go_ret
  exact ⟨rfl, by rw [hRR.out]; exact hI5.out, hW5.out⟩
 ·have e8 : ((k : Int) == 8) = false := by simp; omega
  have hRR : Hid (sR = s) := Lib.hid (by rw [hSS.out, if_neg h8])
  clear hSS h8
  go_wp2_with fail
  go_ret
  exact ⟨rfl, by rw [hRR.out]; exact hI3.out, hW3.out⟩
theorem cals_snk (gc m fm : Nat) (K : List UInt8 → Nat) : StSnkB 32 #[] #[.pointer (some ⟨gc, 0, none⟩)] [some fm] (CcI gc m fm K) (calsD K) budL (fun _ => 1) :=
 ⟨enters_of Try.func32 (by kernel_rfl) rfl, fun s h w pe pf pc Aa At Al na ca nt ct nl cl H hB hI => cals1_any gc m fm K s h w pe pf pc Aa At Al na ca nt ct nl cl H hB hI, fun _ _ _ h hb => h.below hb, fun _ _ g h hg => by simp at hg; subst hg; exact h.ci.fs.lt, fun s h => by have h3 := (addG_snk m fm K).step s h.y; unfold calsD calsS; simp only; split <;> omega⟩
set_option maxRecDepth 100000 in
set_option maxHeartbeats 2000000 in
theorem collOf_any (w : World) (nm : List UInt8) (ps ls : List Vr) (A1 A2 A3 : Option Addr) (c1 c2 n3 c3 : Nat) (h1 : VrAt w Evr ps (.slice A1 ps.length c1)) (h2 : VrAt w Evr ls (.slice A2 ls.length c2)) :
  Calls Try.prog 31 #[.agg (fnC nm A1 A2 A3 ps.length c1 ls.length c2 n3 c3)] w fun e w' => ∃ m fm, e = .returned (.agg #[.map (some m), .map (some fm)]) ∧ ClI m fm (kindV (ps ++ ls)) [] w' ∧ w.heap.size ≤ fm ∧ Below w.heap.size w w' := by
 have hvis := Lib.hid (fun (w : World) (h1 : VrAt w Evr ps (.slice A1 ps.length c1)) (h2 : VrAt w Evr ls (.slice A2 ls.length c2)) => visitorOf_any w nm ps ls A1 A2 A3 c1 c2 n3 c3 h1 h2)
 unfold fnC at hvis ⊢
 obtain ⟨n1, hn1⟩ : ∃ y, y = ps.length := ⟨_, rfl⟩
 obtain ⟨n2, hn2⟩ : ∃ y, y = ls.length := ⟨_, rfl⟩
 rw [← hn1, ← hn2] at hvis ⊢
 rw [← hn1] at h1
 rw [← hn2] at h2
 obtain ⟨w2, hw2⟩ : ∃ x, x = (w.alloc (.cells #[.string (strV nm), .slice A1 n1 c1, .slice A2 n2 c2, .slice A3 n3 c3] 26)).alloc (.cells #[.map none, .map none] 75) := ⟨_, rfl⟩
 obtain ⟨gr, hgr⟩ : ∃ x, x = w.heap.size + 1 := ⟨_, rfl⟩
 have hb2 : Below w.heap.size w w2 := by rw [hw2]; exact ((Below.refl _ _).alloc (Nat.le_refl _) _).alloc (by simp) _
 have hHr : Holds w2 gr 75 #[.map none, .map none] := by
  have h := Holds.new (w.alloc (.cells #[.string (strV nm), .slice A1 n1 c1, .slice A2 n2 c2, .slice A3 n3 c3] 26)) 75 #[.map none, .map none]
  rw [show (w.alloc (.cells #[.string (strV nm), .slice A1 n1 c1, .slice A2 n2 c2, .slice A3 n3 c3] 26)).heap.size = w.heap.size + 1 by simp] at h
  rw [hw2, hgr]
  exact h
 have hc := Lib.hid (hvis.out w2 (h1.keep fun x hx _ => hb2.block x hx) (h2.keep fun x hx _ => hb2.block x hx))
 have hr0 : w.heap.size ≤ gr := by omega
 have hfo := Lib.hid hw2.symm
 have hgr' := Lib.hid hgr.symm
 have hHr' := Lib.hid hHr
 have hb2' := Lib.hid hb2
 have hmm := @run_makeMap Try.prog
 clear hvis h1 h2 hn1 hn2 hw2 hgr hb2 hHr
 go_enter Try.func31, Try.ntmps31
 go_wp2_with fail
 rw [hfo.out, hgr'.out]
 clear hfo hgr'
 refine hc.out.mono ?_
 clear hc
 rintro e w3 ⟨m, rfl, hm0, hK, hb⟩
 have hH3 := hHr'.out.below hb hHr'.out.lt
 have hB3 := hb2'.out.trans (hb.mono hb2'.out.size)
 have hsz3 := hB3.size
 have q0 : w3.cell? ⟨gr, 0, none⟩ = some (.map none) := hH3.cell 0
 have q1 : w3.cell? ⟨gr, 1, none⟩ = some (.map none) := hH3.cell 1
 have f0 := hH3.frozen 0
 have f1 := hH3.frozen 1
 have ql := hH3.lt
 obtain ⟨wa, hwa⟩ : ∃ x, x = (w3.setCell ⟨gr, 0, none⟩ (.map (some m))).setCell ⟨gr, 1, none⟩ (.map (some w3.heap.size)) := ⟨_, rfl⟩
 have hsa : wa.heap.size = w3.heap.size := by rw [hwa]; simp
 have hW : Writes [some gr] w3 wa := by rw [hwa]; exact (Writes.store w3 (by simp) _).trans (Writes.store _ (by simp) _)
 have hrm : gr ≠ m := fun e => hK.noblk q0 e
 have hKa := hK.writes hW (by simp; exact fun e => hrm e.symm)
 have hHa : Holds wa gr 75 #[.map (some m), .map (some w3.heap.size)] := by
  have := (hH3.store 0 (.map (some m))).store 1 (.map (some w3.heap.size))
  rw [hwa]
  simpa using this
 have hBa := hB3.trans (hW.below hB3.size fun j hj => by simp at hj; omega)
 have hbz := below_new wa (.map #[] 0)
 have hS4 : SMap (wa.alloc (.map #[] 0)) w3.heap.size 0 (setF []) := by
  have h := SMap.made wa
  have e : setF [] = fun _ => none := by funext k; simp [setF]
  rw [e, ← hsa]
  exact h
 have hmf : m ≠ w3.heap.size := by have := hK.lt; omega
 have hHz := Lib.hid (hHa.below hbz hHa.lt)
 have hend : Hid (ClI m w3.heap.size (kindV (ps ++ ls)) [] (wa.alloc (.map #[] 0)) ∧ w.heap.size ≤ w3.heap.size ∧ Below w.heap.size w (wa.alloc (.map #[] 0))) := Lib.hid
  ⟨⟨hKa.below hbz, hS4, by simp, hmf⟩, hsz3, hBa.trans (hbz.mono hBa.size)⟩
 have hfa := Lib.hid hwa.symm
 clear hwa hsa hW hrm hKa hHa hBa hbz hS4 hmf hK hb hH3 hB3 hsz3 hm0
 go_wp2_with fail
 rw [hfa.out]
 exact ret_cellN rfl rfl rfl hHz.out Try.underlying75 (by kernel_rfl) ⟨m, _, rfl, hend.out⟩
set_option maxRecDepth 100000 in
set_option maxHeartbeats 4000000 in
theorem cells_any (w : World) (f : Fnc) (A1 A2 A3 : Option Addr) (c1 c2 c3 : Nat) (hF : FnAt w Evr f (.slice A1 f.ps.length c1) (.slice A2 f.ls.length c2) (.slice A3 f.body.len c3)) (hc : cstS (fun h => hsC h + 1) f.body ≤ 500000) :
  Calls Try.prog 10 #[.agg (fnC f.nm A1 A2 A3 f.ps.length c1 f.ls.length c2 f.body.len c3)] w fun e w' => (∃ v, e = .returned v ∧ w'.ownsRow w.heap.size 9 1 v (canon (each (hdP (kindV (f.ps ++ f.ls))) f.body)).length ((canon (each (hdP (kindV (f.ps ++ f.ls))) f.body)).map encStr)) ∧ Below w.heap.size w w' := by
 obtain ⟨nm, ps, ls, body⟩ := f
 simp only at hF hc ⊢
 obtain ⟨-, h1, h2, hB⟩ := hF
 simp only at h1 h2 hB
 have hco := Lib.hid (fun (w : World) (h1 : VrAt w Evr ps (.slice A1 ps.length c1)) (h2 : VrAt w Evr ls (.slice A2 ls.length c2)) => collOf_any w nm ps ls A1 A2 A3 c1 c2 body.len c3 h1 h2)
 unfold fnC at hco ⊢
 obtain ⟨n1, hn1⟩ : ∃ y, y = ps.length := ⟨_, rfl⟩
 obtain ⟨n2, hn2⟩ : ∃ y, y = ls.length := ⟨_, rfl⟩
 obtain ⟨n3, hn3⟩ : ∃ y, y = body.len := ⟨_, rfl⟩
 rw [← hn1, ← hn2, ← hn3] at hco ⊢
 rw [← hn1] at h1
 rw [← hn2] at h2
 rw [← hn3] at hB
 obtain ⟨L, hL⟩ : ∃ y, y = each (hdP (kindV (ps ++ ls))) body := ⟨_, rfl⟩
 rw [← hL]
 obtain ⟨w1, hw1⟩ : ∃ x, x = w.alloc (.cells #[.string (strV nm), .slice A1 n1 c1, .slice A2 n2 c2, .slice A3 n3 c3] 26) := ⟨_, rfl⟩
 obtain ⟨gp, hgp⟩ : ∃ x, x = w.heap.size := ⟨_, rfl⟩
 have hb1 : Below w.heap.size w w1 := by rw [hw1]; exact below_new w _
 have hHp : Holds w1 gp 26 #[.string (strV nm), .slice A1 n1 c1, .slice A2 n2 c2, .slice A3 n3 c3] := by rw [hw1, hgp]; exact Holds.new w _ _
 have q0 : w1.cell? ⟨gp, 0, none⟩ = some (.string (strV nm)) := hHp.cell 0
 have q1 : w1.cell? ⟨gp, 1, none⟩ = some (.slice A1 n1 c1) := hHp.cell 1
 have q2 : w1.cell? ⟨gp, 2, none⟩ = some (.slice A2 n2 c2) := hHp.cell 2
 have q3 : w1.cell? ⟨gp, 3, none⟩ = some (.slice A3 n3 c3) := hHp.cell 3
 have ql := hHp.lt
 have hc1 := Lib.hid (hco.out w1 (h1.keep fun x hx _ => hb1.block x hx) (h2.keep fun x hx _ => hb1.block x hx))
 have hBd := Lib.hid hB
 have hc' := Lib.hid hc
 have hL' := Lib.hid hL
 have hHp' := Lib.hid hHp
 have hb1' := Lib.hid hb1
 have hfo := Lib.hid hw1.symm
 have hgp' := Lib.hid hgp.symm
 clear hco h1 h2 hB hn1 hn2 hn3 hL hw1 hgp hb1 hHp hc
 go_enter Try.func10, Try.ntmps10
 go_upto_region 1 with (fail)
 rw [hfo.out, hgp'.out]
 clear hfo hgp'
 go_wp2_with fail
 refine hc1.out.mono ?_
 clear hc1 q0 q1 q2 q3 ql
 rintro e w2 ⟨m, fm, rfl, hC, hfm0, hb2⟩
 obtain ⟨K, hKK⟩ : ∃ K, K = kindV (ps ++ ls) := ⟨_, rfl⟩
 rw [← hKK] at hC
 have hL2 : Hid (L = each (hdP K) body) := Lib.hid (by rw [hL'.out, hKK])
 obtain ⟨w3, hw3⟩ : ∃ x, x = w2.alloc (.cells #[.map (some m), .map (some fm)] 75) := ⟨_, rfl⟩
 obtain ⟨gc, hgc⟩ : ∃ x, x = w2.heap.size := ⟨_, rfl⟩
 have hb3 : Below w2.heap.size w2 w3 := by rw [hw3]; exact below_new w2 _
 have hI3 : CcI gc m fm K [] w3 := ⟨hC.below hb3, by rw [hw3, hgc]; exact Holds.new w2 _ _⟩
 have hB2 := hb1'.out.trans (hb2.mono hb1'.out.size)
 have hB3 := hB2.trans (hb3.mono hB2.size)
 have hHp3 := (hHp'.out.below hb2 hHp'.out.lt).below hb3 (hHp'.out.below hb2 hHp'.out.lt).lt
 have hfmw : w.heap.size ≤ fm := Nat.le_trans hb1'.out.size hfm0
 have hS3 : SlAt w3 (NotOf [some fm]) body (.slice A3 n3 c3) := by
  have h1 := hBd.out.mono (S' := NotOf [some fm]) fun x hx _ => by unfold NotOf; simp; omega
  exact h1.keep fun x hx _ => hB3.block x hx
 have hwk := Lib.hid (vstmtsB_any (cells_snk gc m fm K) (some m) body.dep body (Nat.le_refl _) w3 [] _ hS3 (by unfold budL; simp; exact hc'.out) hI3)
 have hI3' := Lib.hid hI3
 have q0 := (hHp'.out.below hb2 hHp'.out.lt).cell 3
 have ql := (hHp'.out.below hb2 hHp'.out.lt).lt
 simp at q0
 have hB3' := Lib.hid hB3
 have hfo := Lib.hid hw3.symm
 have hgc' := Lib.hid hgc.symm
 have hfmw' := Lib.hid hfmw
 clear hKK hL' hw3 hgc hb3 hI3 hB2 hB3 hHp3 hfmw hS3 hC hfm0 hb2 hb1' hHp'
 go_wp2_with fail
 rw [hfo.out, hgc'.out]
 refine hwk.out.mono ?_
 clear hwk hfo hgc' q0 ql
 rintro e w4 ⟨rfl, hI4, hW4⟩
 rw [vis_each (fun s y => by unfold cellsD; rw [cellsS_app]) body, List.nil_append] at hI4
 rw [← hL2.out] at hI4
 have hB4 := Lib.hid (hB3'.out.trans (hW4.below hB3'.out.size fun j hj => by simp at hj; subst hj; exact hfmw'.out))
 have hso := Lib.hid (csorted_any w4 m fm K L hI4.ci)
 obtain ⟨p0, p1, pl⟩ := hI4.facts
 clear hI4 hW4 hI3' hB3' hL2
 go_wp2_with fail
 refine hso.out.mono ?_
 rintro e w5 ⟨⟨v, rfl, ho⟩, hb5⟩
 have hv := Lib.hid (own_base ho hB4.out.size)
 have hB5 := Lib.hid (hB4.out.trans (hb5.mono hB4.out.size))
 clear ho hb5 hso p0 p1 pl
 go_wp2_with fail
 go_ret
 exact ⟨⟨_, rfl, hv.out⟩, hB5.out⟩
set_option maxRecDepth 100000 in
set_option maxHeartbeats 4000000 in
theorem cals_any (w : World) (f : Fnc) (A1 A2 A3 : Option Addr) (c1 c2 c3 : Nat) (hF : FnAt w Evr f (.slice A1 f.ps.length c1) (.slice A2 f.ls.length c2) (.slice A3 f.body.len c3)) (hc : cstS (fun _ => 1) f.body ≤ 500000) :
  Calls Try.prog 9 #[.agg (fnC f.nm A1 A2 A3 f.ps.length c1 f.ls.length c2 f.body.len c3)] w fun e w' => (∃ v, e = .returned v ∧ w'.ownsRow w.heap.size 9 1 v (canon (each (globs (kindV (f.ps ++ f.ls)) calH) f.body)).length ((canon (each (globs (kindV (f.ps ++ f.ls)) calH) f.body)).map encStr)) ∧ Below w.heap.size w w' := by
 obtain ⟨nm, ps, ls, body⟩ := f
 simp only at hF hc ⊢
 obtain ⟨-, h1, h2, hB⟩ := hF
 simp only at h1 h2 hB
 have hco := Lib.hid (fun (w : World) (h1 : VrAt w Evr ps (.slice A1 ps.length c1)) (h2 : VrAt w Evr ls (.slice A2 ls.length c2)) => collOf_any w nm ps ls A1 A2 A3 c1 c2 body.len c3 h1 h2)
 unfold fnC at hco ⊢
 obtain ⟨n1, hn1⟩ : ∃ y, y = ps.length := ⟨_, rfl⟩
 obtain ⟨n2, hn2⟩ : ∃ y, y = ls.length := ⟨_, rfl⟩
 obtain ⟨n3, hn3⟩ : ∃ y, y = body.len := ⟨_, rfl⟩
 rw [← hn1, ← hn2, ← hn3] at hco ⊢
 rw [← hn1] at h1
 rw [← hn2] at h2
 rw [← hn3] at hB
 obtain ⟨L, hL⟩ : ∃ y, y = each (globs (kindV (ps ++ ls)) calH) body := ⟨_, rfl⟩
 rw [← hL]
 obtain ⟨w1, hw1⟩ : ∃ x, x = w.alloc (.cells #[.string (strV nm), .slice A1 n1 c1, .slice A2 n2 c2, .slice A3 n3 c3] 26) := ⟨_, rfl⟩
 obtain ⟨gp, hgp⟩ : ∃ x, x = w.heap.size := ⟨_, rfl⟩
 have hb1 : Below w.heap.size w w1 := by rw [hw1]; exact below_new w _
 have hHp : Holds w1 gp 26 #[.string (strV nm), .slice A1 n1 c1, .slice A2 n2 c2, .slice A3 n3 c3] := by rw [hw1, hgp]; exact Holds.new w _ _
 have q0 : w1.cell? ⟨gp, 0, none⟩ = some (.string (strV nm)) := hHp.cell 0
 have q1 : w1.cell? ⟨gp, 1, none⟩ = some (.slice A1 n1 c1) := hHp.cell 1
 have q2 : w1.cell? ⟨gp, 2, none⟩ = some (.slice A2 n2 c2) := hHp.cell 2
 have q3 : w1.cell? ⟨gp, 3, none⟩ = some (.slice A3 n3 c3) := hHp.cell 3
 have ql := hHp.lt
 have hc1 := Lib.hid (hco.out w1 (h1.keep fun x hx _ => hb1.block x hx) (h2.keep fun x hx _ => hb1.block x hx))
 have hBd := Lib.hid hB
 have hc' := Lib.hid hc
 have hL' := Lib.hid hL
 have hHp' := Lib.hid hHp
 have hb1' := Lib.hid hb1
 have hfo := Lib.hid hw1.symm
 have hgp' := Lib.hid hgp.symm
 clear hco h1 h2 hB hn1 hn2 hn3 hL hw1 hgp hb1 hHp hc
 go_enter Try.func9, Try.ntmps9
 go_upto_region 1 with (fail)
 rw [hfo.out, hgp'.out]
 clear hfo hgp'
 go_wp2_with fail
 refine hc1.out.mono ?_
 clear hc1 q0 q1 q2 q3 ql
 rintro e w2 ⟨m, fm, rfl, hC, hfm0, hb2⟩
 obtain ⟨K, hKK⟩ : ∃ K, K = kindV (ps ++ ls) := ⟨_, rfl⟩
 rw [← hKK] at hC
 have hL2 : Hid (L = each (globs K calH) body) := Lib.hid (by rw [hL'.out, hKK])
 obtain ⟨w3, hw3⟩ : ∃ x, x = w2.alloc (.cells #[.map (some m), .map (some fm)] 75) := ⟨_, rfl⟩
 obtain ⟨gc, hgc⟩ : ∃ x, x = w2.heap.size := ⟨_, rfl⟩
 have hb3 : Below w2.heap.size w2 w3 := by rw [hw3]; exact below_new w2 _
 have hI3 : CcI gc m fm K [] w3 := ⟨hC.below hb3, by rw [hw3, hgc]; exact Holds.new w2 _ _⟩
 have hB2 := hb1'.out.trans (hb2.mono hb1'.out.size)
 have hB3 := hB2.trans (hb3.mono hB2.size)
 have hHp3 := (hHp'.out.below hb2 hHp'.out.lt).below hb3 (hHp'.out.below hb2 hHp'.out.lt).lt
 have hfmw : w.heap.size ≤ fm := Nat.le_trans hb1'.out.size hfm0
 have hS3 : SlAt w3 (NotOf [some fm]) body (.slice A3 n3 c3) := by
  have h1 := hBd.out.mono (S' := NotOf [some fm]) fun x hx _ => by unfold NotOf; simp; omega
  exact h1.keep fun x hx _ => hB3.block x hx
 have hwk := Lib.hid (vstmtsB_any (cals_snk gc m fm K) (some m) body.dep body (Nat.le_refl _) w3 [] _ hS3 (by unfold budL; simp; exact hc'.out) hI3)
 have hI3' := Lib.hid hI3
 have q0 := (hHp'.out.below hb2 hHp'.out.lt).cell 3
 have ql := (hHp'.out.below hb2 hHp'.out.lt).lt
 simp at q0
 have hB3' := Lib.hid hB3
 have hfo := Lib.hid hw3.symm
 have hgc' := Lib.hid hgc.symm
 have hfmw' := Lib.hid hfmw
 clear hKK hL' hw3 hgc hb3 hI3 hB2 hB3 hHp3 hfmw hS3 hC hfm0 hb2 hb1' hHp'
 go_wp2_with fail
 rw [hfo.out, hgc'.out]
 refine hwk.out.mono ?_
 clear hwk hfo hgc' q0 ql
 rintro e w4 ⟨rfl, hI4, hW4⟩
 rw [vis_each (fun s y => by unfold calsD; rw [calsS_app]) body, List.nil_append] at hI4
 rw [← hL2.out] at hI4
 have hB4 := Lib.hid (hB3'.out.trans (hW4.below hB3'.out.size fun j hj => by simp at hj; subst hj; exact hfmw'.out))
 have hso := Lib.hid (csorted_any w4 m fm K L hI4.ci)
 obtain ⟨p0, p1, pl⟩ := hI4.facts
 clear hI4 hW4 hI3' hB3' hL2
 go_wp2_with fail
 refine hso.out.mono ?_
 rintro e w5 ⟨⟨v, rfl, ho⟩, hb5⟩
 have hv := Lib.hid (own_base ho hB4.out.size)
 have hB5 := Lib.hid (hB4.out.trans (hb5.mono hB4.out.size))
 clear ho hb5 hso p0 p1 pl
 go_wp2_with fail
 go_ret
 exact ⟨⟨_, rfl, hv.out⟩, hB5.out⟩
end Go.Proofs.Ytpndglghpojjkaa
/- Package augurhelp: statements, variables, functions that are the same are told to be so. -/
namespace Go.Proofs.Ytpndglghpojjkaa
open Go.RowKit Go.Deep

/-- Stmts tells that the same statements are the same. -/
def HSl (l : Sl) : Prop := ∀ (w : World) (v v' : Value), SlAt w Evr l v → SlAt w Evr l v' → Calls Try.prog 30 #[v, v'] w fun e w' => e = .returned (.bool true) ∧ Below w.heap.size w w'
/-- Two statements in blocks of their own. -/
structure TwoS (g g' : Nat) (cs cs' : Array Value) (w0 w : World) : Prop where
 h1 : Holds w g 38 cs
 h2 : Holds w g' 38 cs'
 bl : Below w0.heap.size w0 w
theorem TwoS.below {g g' : Nat} {cs cs' : Array Value} {w0 w w' : World} (h : TwoS g g' cs cs' w0 w) (hb : Below w.heap.size w w') : TwoS g g' cs cs' w0 w' := ⟨h.h1.below hb h.h1.lt, h.h2.below hb h.h2.lt, h.bl.trans (hb.mono h.bl.size)⟩
theorem below_drew (w : World) (n : Nat) : Below w.heap.size w (w.drewN n) := by
 induction n with
 | zero => exact Below.refl _ _
 | succ n ih => exact ih.trans ((Below.refl _ _).drew)
set_option maxRecDepth 100000 in
set_option maxHeartbeats 4000000 in
theorem hstmt_any (h : Hd) (t e : Sl) (iht : HSl t) (ihe : HSl e) (w : World) (pe pf pc Aa At Al pe' pf' pc' Aa' At' Al' : Option Addr) (ca ct cl ca' ct' cl' : Nat)
  (H : HdAt w Evr h (.pointer pe) (.pointer pf) (.pointer pc) (.slice Aa h.args.length ca)) (ht : SlAt w Evr t (.slice At t.len ct)) (he : SlAt w Evr e (.slice Al e.len cl))
  (H' : HdAt w Evr h (.pointer pe') (.pointer pf') (.pointer pc') (.slice Aa' h.args.length ca')) (ht' : SlAt w Evr t (.slice At' t.len ct')) (he' : SlAt w Evr e (.slice Al' e.len cl')) :
  Calls Try.prog 54 #[.agg (stC h pe pf pc Aa At Al h.args.length ca t.len ct e.len cl), .agg (stC h pe' pf' pc' Aa' At' Al' h.args.length ca' t.len ct' e.len cl')] w fun e' w' => e' = .returned (.bool true) ∧ Below w.heap.size w w' := by
 obtain ⟨n, hn⟩ : ∃ y, y = h.args.length := ⟨_, rfl⟩
 obtain ⟨nt, hnt⟩ : ∃ y, y = t.len := ⟨_, rfl⟩
 obtain ⟨nl, hnl⟩ : ∃ y, y = e.len := ⟨_, rfl⟩
 have hA := H.a
 have hA' := H'.a
 have hn5 : n ≤ 100000 := by
  obtain ⟨A, c, vs, e1, l1, -⟩ := H.a
  rw [hn]; exact l1
 have hA1 := Lib.hid hA
 have hA2 := Lib.hid hA'
 rw [← hn] at H H'
 rw [← hnt] at ht ht'
 rw [← hnl] at he he'
 rw [← hn, ← hnt, ← hnl]
 obtain ⟨w2, hw2⟩ : ∃ y, y = (w.alloc (.cells (stC h pe pf pc Aa At Al n ca nt ct nl cl) 38)).alloc (.cells (stC h pe' pf' pc' Aa' At' Al' n ca' nt ct' nl cl') 38) := ⟨_, rfl⟩
 obtain ⟨g, hg⟩ : ∃ y, y = w.heap.size := ⟨_, rfl⟩
 obtain ⟨g', hg'⟩ : ∃ y, y = w.heap.size + 1 := ⟨_, rfl⟩
 have hT : TwoS g g' (stC h pe pf pc Aa At Al n ca nt ct nl cl) (stC h pe' pf' pc' Aa' At' Al' n ca' nt ct' nl cl') w w2 := by
  refine ⟨?_, ?_, ?_⟩
  ·rw [hw2, hg]; exact (Holds.new w _ _).alloc _
  ·rw [hw2, hg']
   have h1 := Holds.new (w.alloc (.cells (stC h pe pf pc Aa At Al n ca nt ct nl cl) 38)) 38 (stC h pe' pf' pc' Aa' At' Al' n ca' nt ct' nl cl')
   rw [show (w.alloc (.cells (stC h pe pf pc Aa At Al n ca nt ct nl cl) 38)).heap.size = w.heap.size + 1 by simp] at h1
   exact h1
  ·rw [hw2]; exact ((Below.refl _ _).alloc (Nat.le_refl _) _).alloc (by simp) _
 have cE := Lib.hid fun (x : World) (hb : Below w.heap.size w x) => hexpr_any h.e x _ _ (H.e.keep fun j hj _ => hb.block j hj) (H'.e.keep fun j hj _ => hb.block j hj)
 have cF := Lib.hid fun (x : World) (hb : Below w.heap.size w x) => hexpr_any h.f x _ _ (H.f.keep fun j hj _ => hb.block j hj) (H'.f.keep fun j hj _ => hb.block j hj)
 have cC := Lib.hid fun (x : World) (hb : Below w.heap.size w x) => hcond_any h.c x _ _ (H.c.keep fun j hj _ => hb.block j hj) (H'.c.keep fun j hj _ => hb.block j hj)
 have cT := Lib.hid fun (x : World) (hb : Below w.heap.size w x) => iht x _ _ (ht.keep fun j hj _ => hb.block j hj) (ht'.keep fun j hj _ => hb.block j hj)
 have cL := Lib.hid fun (x : World) (hb : Below w.heap.size w x) => ihe x _ _ (he.keep fun j hj _ => hb.block j hj) (he'.keep fun j hj _ => hb.block j hj)
 have hfo := Lib.hid hw2.symm
 have hgH := Lib.hid hg.symm
 have hgH' := Lib.hid hg'.symm
 have hT' := Lib.hid hT
 have hn' := Lib.hid hn
 unfold stC at hfo
 clear hw2 hg hg' hT H H' ht he ht' he' hn hnt hnl hA hA'
 unfold stC
 go_enter Try.func54, Try.ntmps54
 go_upto_region 1 with (fail)
 rw [hfo.out, hgH'.out, hgH.out]
 clear hfo hgH hgH'
 obtain ⟨q0, q1, q2, q3, q4, q5, q6, q7, q8, q9, ql⟩ := stC_facts hT'.out.h1
 obtain ⟨p0, p1, p2, p3, p4, p5, p6, p7, p8, p9, pl⟩ := stC_facts hT'.out.h2
 go_wp2_with fail
 clear q0 q1 q2 q3 q4 q5 q6 q7 q8 q9 ql p0 p1 p2 p3 p4 p5 p6 p7 p8 p9 pl
 go_loopw [5] (fun i wl => ∃ k : Nat, k ≤ n ∧ i = .int .i64 k ∧ Hid (TwoS g g' (stC h pe pf pc Aa At Al n ca nt ct nl cl) (stC h pe' pf' pc' Aa' At' Al' n ca' nt ct' nl cl') w wl)) (fun i _ => n - (intOf i).toNat)
 case atStart => exact ⟨0, by omega, rfl, hT'⟩
 clear hT'
 obtain ⟨k, hk, rfl, hT⟩ := hrel
 rename World => wl
 obtain ⟨q0, q1, q2, q3, q4, q5, q6, q7, q8, q9, ql⟩ := stC_facts hT.out.h1
 obtain ⟨p0, p1, p2, p3, p4, p5, p6, p7, p8, p9, pl⟩ := stC_facts hT.out.h2
 by_cases hlt : k < n
 ·have hkl : k < h.args.length := by rw [← hn'.out]; exact hlt
  have hb := hT.out.bl
  obtain ⟨b, off, ve, e1, c0, c1, c2, hx, hnm⟩ := AgsAt.atS (hA1.out.keep fun j hj _ => hb.block j hj : AgsAt wl Evr h.args (.slice Aa h.args.length ca)) hkl
  obtain ⟨b', off', ve', e1', d0, d1, d2, hx', -⟩ := AgsAt.atS (hA2.out.keep fun j hj _ => hb.block j hj : AgsAt wl Evr h.args (.slice Aa' h.args.length ca')) hkl
  subst e1 e1'
  obtain ⟨p, rfl⟩ := hx.vp
  obtain ⟨p', rfl⟩ := hx'.vp
  have ca := Lib.hid fun n => hexpr_any h.args[k].e (wl.drewN n) _ _ (hx.drawn n) (hx'.drawn n)
  generalize h.args[k] = a at c0 c1 d0 d1 ca
  obtain ⟨ap, an, ae⟩ := a
  simp only at c0 c1 d0 d1 ca
  clear hx hx' hb hnm q0 q1 q2 q3 q4 q5 q7 q8 q9 p0 p1 p2 p3 p4 p5 p7 p8 p9
  cases ap
  all_goals
   go_wp2_with fail
   go_quiet ((go_at_call 74; with_reducible exact Calls.quiet_of (ca.out _)))
   rename_i nq
   have hT2 := Lib.hid (hT.out.below (below_drew wl nq))
   go_wp2_with fail
   exact ⟨⟨k + 1, by omega, by simp, hT2⟩, by simp [intOf]; omega⟩
 ·obtain rfl : k = n := by omega
  go_wp2_with fail
  refine (cE.out wl hT.out.bl).mono ?_
  rintro e0 w1 ⟨rfl, nq0, hq0⟩
  have hT1 := Lib.hid (hT.out.below (by rw [hq0]; exact below_drew wl nq0 : Below wl.heap.size wl w1))
  clear hq0
  clear q0 q1 q2 q3 q4 q5 q6 q7 q8 q9 ql p0 p1 p2 p3 p4 p5 p6 p7 p8 p9 pl hT
  obtain ⟨q0, q1, q2, q3, q4, q5, q6, q7, q8, q9, ql⟩ := stC_facts hT1.out.h1
  obtain ⟨p0, p1, p2, p3, p4, p5, p6, p7, p8, p9, pl⟩ := stC_facts hT1.out.h2
  go_wp2_with fail
  refine (cF.out w1 hT1.out.bl).mono ?_
  rintro e1 wB ⟨rfl, nq1, hq1⟩
  have hT2 := Lib.hid (hT1.out.below (by rw [hq1]; exact below_drew w1 nq1 : Below w1.heap.size w1 wB))
  clear hq1
  clear q0 q1 q2 q3 q4 q5 q6 q7 q8 q9 ql p0 p1 p2 p3 p4 p5 p6 p7 p8 p9 pl hT1
  obtain ⟨q0, q1, q2, q3, q4, q5, q6, q7, q8, q9, ql⟩ := stC_facts hT2.out.h1
  obtain ⟨p0, p1, p2, p3, p4, p5, p6, p7, p8, p9, pl⟩ := stC_facts hT2.out.h2
  go_wp2_with fail
  refine (cC.out wB hT2.out.bl).mono ?_
  rintro e2 w3 ⟨rfl, nq2, hq2⟩
  have hT3 := Lib.hid (hT2.out.below (by rw [hq2]; exact below_drew wB nq2 : Below wB.heap.size wB w3))
  clear hq2
  clear q0 q1 q2 q3 q4 q5 q6 q7 q8 q9 ql p0 p1 p2 p3 p4 p5 p6 p7 p8 p9 pl hT2
  obtain ⟨q0, q1, q2, q3, q4, q5, q6, q7, q8, q9, ql⟩ := stC_facts hT3.out.h1
  obtain ⟨p0, p1, p2, p3, p4, p5, p6, p7, p8, p9, pl⟩ := stC_facts hT3.out.h2
  go_wp2_with fail
  refine (cT.out w3 hT3.out.bl).mono ?_
  rintro e3 w4 ⟨rfl, hb3⟩
  have hT4 := Lib.hid (hT3.out.below hb3)
  clear hb3
  clear q0 q1 q2 q3 q4 q5 q6 q7 q8 q9 ql p0 p1 p2 p3 p4 p5 p6 p7 p8 p9 pl hT3
  obtain ⟨q0, q1, q2, q3, q4, q5, q6, q7, q8, q9, ql⟩ := stC_facts hT4.out.h1
  obtain ⟨p0, p1, p2, p3, p4, p5, p6, p7, p8, p9, pl⟩ := stC_facts hT4.out.h2
  go_wp2_with fail
  refine (cL.out w4 hT4.out.bl).mono ?_
  rintro e4 w5 ⟨rfl, hb4⟩
  have hT5 := Lib.hid (hT4.out.below hb4)
  clear hb4
  clear q0 q1 q2 q3 q4 q5 q6 q7 q8 q9 ql p0 p1 p2 p3 p4 p5 p6 p7 p8 p9 pl hT4
  go_wp2_with fail
  go_ret
  exact ⟨rfl, hT5.out.bl⟩
end Go.Proofs.Ytpndglghpojjkaa
/- Package augurhelp: lists of statements, of variables, functions that are the same are told to be so. -/
namespace Go.Proofs.Ytpndglghpojjkaa
open Go.RowKit Go.Deep

theorem RestAt.up {w w' : World} {A : Option Addr} {k : Nat} {l : Sl} {us : List Value} (H : RestAt w Evr A k l us) (hb : Below w.heap.size w w') : RestAt w' Evr A k l us := by
 refine ⟨H.cs.keep fun x hx _ => hb.block x hx, fun hne => ?_⟩
 obtain ⟨b, off, e, hS, hc⟩ := H.row hne
 refine ⟨b, off, e, hS, fun j u hu => ?_⟩
 have h1 := hc j u hu
 rw [← h1]
 exact World.cell?_of_block (hb.block b (lt_of_cell h1))
set_option maxRecDepth 100000 in
set_option maxHeartbeats 4000000 in
theorem hstmts_step (l0 : Sl) (ih : ∀ l', l'.dep < l0.dep → HSl l') : HSl l0 := by
 intro w v v' hv hv'
 obtain ⟨A, c, us, e, hlen, hlc, hR⟩ := hv.rest
 obtain ⟨A', c', us', e', -, hlc', hR'⟩ := hv'.rest
 subst e e'
 obtain ⟨n, hn⟩ : ∃ y, y = l0.len := ⟨_, rfl⟩
 rw [← hn] at hlen hlc hlc' ⊢
 have h0 : Hid (RestAt w Evr A 0 l0 us) := Lib.hid hR
 have h0' : Hid (RestAt w Evr A' 0 l0 us') := Lib.hid hR'
 have hn0 : Hid (0 + l0.len = n) := Lib.hid (by rw [hn]; simp)
 have hd0 : Hid (l0.dep ≤ l0.dep) := Lib.hid (Nat.le_refl _)
 have hih := Lib.hid ih
 clear hv hv' hR hR' hn ih
 go_enter Try.func30, Try.ntmps30
 go_wp2_with fail
 go_loopw [5] (fun i wl => ∃ (k : Nat) (ls : Sl) (vs vs' : List Value), k ≤ n ∧ i = .int .i64 k ∧ Hid (RestAt wl Evr A k ls vs) ∧ Hid (RestAt wl Evr A' k ls vs') ∧ Hid (k + ls.len = n) ∧ Hid (ls.dep ≤ l0.dep) ∧ Hid (Below w.heap.size w wl)) (fun i _ => n - (intOf i).toNat)
 case atStart => exact ⟨0, l0, us, us', by omega, rfl, h0, h0', hn0, hd0, Lib.hid (Below.refl _ _)⟩
 clear h0 h0' hn0 hd0
 obtain ⟨k, ls, vs, vs', hkn, rfl, hR, hR', hln, hdp, hB⟩ := hrel
 rename World => wl
 cases ls with
 | nil =>
  have hkn2 : k = n := by have := hln.out; simp [Sl.len] at this; exact this
  subst hkn2
  clear hR hR'
  go_wp2_with fail
  go_ret
  exact ⟨rfl, hB.out⟩
 | cons h t e r =>
  have hlt : k < n := by have := hln.out; simp only [Sl.len] at this; omega
  obtain ⟨b, off, pe, pf, pc, Aa, ca, At, ct, Al, cl, us1, hA, hh, ht, he, hc, hrest⟩ := hR.out.next
  obtain ⟨b', off', pe', pf', pc', Aa', ca', At', ct', Al', cl', us1', hA', hh', ht', he', hc', hrest'⟩ := hR'.out.next
  subst hA hA'
  obtain ⟨wd, hwd⟩ : ∃ y, y = wl.drew := ⟨_, rfl⟩
  have hbd : Below wl.heap.size wl wd := by rw [hwd]; exact (Below.refl _ wl).drew
  have hdt : Hid (t.dep < l0.dep ∧ e.dep < l0.dep ∧ r.dep ≤ l0.dep) := Lib.hid (by have := hdp.out; rw [Sl.dep_cons] at this; omega)
  have hrl : Hid (k + 1 + r.len = n) := Lib.hid (by have := hln.out; simp only [Sl.len] at this; omega)
  have hcall := Lib.hid (hstmt_any h t e (hih.out t hdt.out.1) (hih.out e hdt.out.2.1) wd pe pf pc Aa At Al pe' pf' pc' Aa' At' Al' ca ct cl ca' ct' cl' (hh.below hbd) (ht.below hbd) (he.below hbd) (hh'.below hbd) (ht'.below hbd) (he'.below hbd))
  have hr1 := Lib.hid (hrest.up hbd)
  have hr2 := Lib.hid (hrest'.up hbd)
  have hB1 := Lib.hid (hB.out.trans (hbd.mono hB.out.size))
  generalize h.args.length = na at hc hc' hcall
  generalize t.len = nt at hc hc' hcall
  generalize e.len = nl at hc hc' hcall
  have q0 : wl.cell? ⟨b, off + k * 10, none⟩ = some (.int .i64 h.k) := hc 0 (by decide)
  have q1 : wl.cell? ⟨b, off + k * 10 + 1, none⟩ = some (.string (strV h.x)) := hc 1 (by decide)
  have q2 : wl.cell? ⟨b, off + k * 10 + 2, none⟩ = some (.string (strV h.y)) := hc 2 (by decide)
  have q3 : wl.cell? ⟨b, off + k * 10 + 3, none⟩ = some (.pointer pe) := hc 3 (by decide)
  have q4 : wl.cell? ⟨b, off + k * 10 + 4, none⟩ = some (.pointer pf) := hc 4 (by decide)
  have q5 : wl.cell? ⟨b, off + k * 10 + 5, none⟩ = some (.pointer pc) := hc 5 (by decide)
  have q6 : wl.cell? ⟨b, off + k * 10 + 6, none⟩ = some (.slice Aa na ca) := hc 6 (by decide)
  have q7 : wl.cell? ⟨b, off + k * 10 + 7, none⟩ = some (.slice At nt ct) := hc 7 (by decide)
  have q8 : wl.cell? ⟨b, off + k * 10 + 8, none⟩ = some (.slice Al nl cl) := hc 8 (by decide)
  have q9 : wl.cell? ⟨b, off + k * 10 + 9, none⟩ = some (.int .i64 h.at_) := hc 9 (by decide)
  have p0 : wl.cell? ⟨b', off' + k * 10, none⟩ = some (.int .i64 h.k) := hc' 0 (by decide)
  have p1 : wl.cell? ⟨b', off' + k * 10 + 1, none⟩ = some (.string (strV h.x)) := hc' 1 (by decide)
  have p2 : wl.cell? ⟨b', off' + k * 10 + 2, none⟩ = some (.string (strV h.y)) := hc' 2 (by decide)
  have p3 : wl.cell? ⟨b', off' + k * 10 + 3, none⟩ = some (.pointer pe') := hc' 3 (by decide)
  have p4 : wl.cell? ⟨b', off' + k * 10 + 4, none⟩ = some (.pointer pf') := hc' 4 (by decide)
  have p5 : wl.cell? ⟨b', off' + k * 10 + 5, none⟩ = some (.pointer pc') := hc' 5 (by decide)
  have p6 : wl.cell? ⟨b', off' + k * 10 + 6, none⟩ = some (.slice Aa' na ca') := hc' 6 (by decide)
  have p7 : wl.cell? ⟨b', off' + k * 10 + 7, none⟩ = some (.slice At' nt ct') := hc' 7 (by decide)
  have p8 : wl.cell? ⟨b', off' + k * 10 + 8, none⟩ = some (.slice Al' nl cl') := hc' 8 (by decide)
  have p9 : wl.cell? ⟨b', off' + k * 10 + 9, none⟩ = some (.int .i64 h.at_) := hc' 9 (by decide)
  have hfd := Lib.hid hwd.symm
  have hX : Hid (∀ w5, Below wd.heap.size wd w5 → RestAt w5 Evr (some ⟨b, off, none⟩) (k + 1) r us1 ∧ RestAt w5 Evr (some ⟨b', off', none⟩) (k + 1) r us1' ∧ Below w.heap.size w w5) := Lib.hid fun w5 hb => ⟨hr1.out.up hb, hr2.out.up hb, hB1.out.trans (hb.mono hB1.out.size)⟩
  unfold stC at hcall
  clear hR hR' hln hdp hB hwd hbd hc hc' hrest hrest' hh ht he hh' ht' he' hr1 hr2 hB1
  go_wp2_with fail
  go_still_tail 8, (by kernel_rfl)
  change wpList _ _ _ _ _ wl.drew
  rw [hfd.out]
  clear q0 q1 q2 q3 q4 q5 q6 q7 q8 q9 p0 p1 p2 p3 p4 p5 p6 p7 p8 p9 hfd
  go_wp2_with fail
  refine hcall.out.mono ?_
  rintro e5 w5 ⟨rfl, hb5⟩
  obtain ⟨y1, y2, y3⟩ := hX.out w5 hb5
  have z1 := Lib.hid y1
  have z2 := Lib.hid y2
  have z3 := Lib.hid y3
  clear y1 y2 y3 hb5 hX hcall
  go_wp2_with fail
  exact ⟨⟨k + 1, r, us1, us1', by omega, by simp, z1, z2, hrl, Lib.hid hdt.out.2.2, z3⟩, by simp [intOf]; omega⟩
theorem hstmts_any : ∀ (N : Nat) (l : Sl), l.dep ≤ N → HSl l
 | 0, l, hN => hstmts_step l fun l' h => absurd h (by omega)
 | N + 1, l, hN => hstmts_step l fun l' h => hstmts_any N l' (by omega)
set_option maxRecDepth 100000 in
set_option maxHeartbeats 4000000 in
theorem hvars_any (w : World) (l : List Vr) (v v' : Value) (hv : VrAt w Evr l v) (hv' : VrAt w Evr l v') : Calls Try.prog 29 #[v, v'] w fun e w' => e = .returned (.bool true) ∧ Below w.heap.size w w' := by
 obtain ⟨A, c, e, hlen, hlc, hr, -⟩ := hv
 obtain ⟨A', c', e', -, hlc', hr', -⟩ := hv'
 subst e e'
 obtain ⟨n, hn⟩ : ∃ y, y = l.length := ⟨_, rfl⟩
 rw [← hn] at hlen hlc hlc' ⊢
 have r1 := Lib.hid hr
 have r2 := Lib.hid hr'
 have hn' := Lib.hid hn
 clear hr hr' hn
 go_enter Try.func29, Try.ntmps29
 go_wp2_with fail
 go_loopw [5] (fun i wl => ∃ k : Nat, k ≤ n ∧ i = .int .i64 k ∧ Hid (Below w.heap.size w wl)) (fun i _ => n - (intOf i).toNat)
 case atStart => exact ⟨0, by omega, rfl, Lib.hid (Below.refl _ _)⟩
 obtain ⟨k, hk, rfl, hB⟩ := hrel
 rename World => wl
 by_cases hlt : k < n
 ·have hkl : k < l.length := by rw [← hn'.out]; exact hlt
  obtain ⟨b, off, e, q0, q1⟩ := vrow_at (r1.out.up hB.out) hkl
  obtain ⟨b', off', e', p0, p1⟩ := vrow_at (r2.out.up hB.out) hkl
  subst e e'
  generalize l[k] = x at q0 q1 p0 p1
  obtain ⟨nx, px⟩ := x
  simp only at q0 q1 p0 p1
  go_wp2_with fail
  go_quiet (fail)
  rename_i nq
  have hB2 := Lib.hid (hB.out.trans ((below_drew wl nq).mono hB.out.size))
  go_wp2_with fail
  exact ⟨⟨k + 1, by omega, by simp, hB2⟩, by simp [intOf]; omega⟩
 ·obtain rfl : k = n := by omega
  go_wp2_with fail
  go_ret
  exact ⟨rfl, hB.out⟩
set_option maxRecDepth 100000 in
set_option maxHeartbeats 4000000 in
theorem hfunc_any (w : World) (f : Fnc) (A1 A2 A3 A1' A2' A3' : Option Addr) (c1 c2 c3 c1' c2' c3' : Nat) (hF : FnAt w Evr f (.slice A1 f.ps.length c1) (.slice A2 f.ls.length c2) (.slice A3 f.body.len c3)) (hF' : FnAt w Evr f (.slice A1' f.ps.length c1') (.slice A2' f.ls.length c2') (.slice A3' f.body.len c3')) :
  Calls Try.prog 7 #[.agg (fnC f.nm A1 A2 A3 f.ps.length c1 f.ls.length c2 f.body.len c3), .agg (fnC f.nm A1' A2' A3' f.ps.length c1' f.ls.length c2' f.body.len c3')] w fun e w' => e = .returned (.bool true) ∧ Below w.heap.size w w' := by
 obtain ⟨nm, ps, ls, body⟩ := f
 simp only at hF hF' ⊢
 obtain ⟨-, h1, h2, h3⟩ := hF
 obtain ⟨-, g1, g2, g3⟩ := hF'
 simp only at h1 h2 h3 g1 g2 g3
 generalize hn1 : ps.length = n1 at h1 g1 ⊢
 generalize hn2 : ls.length = n2 at h2 g2 ⊢
 generalize hn3 : body.len = n3 at h3 g3 ⊢
 have cP := Lib.hid fun (x : World) (hb : Below w.heap.size w x) => hvars_any x ps _ _ (h1.keep fun j hj _ => hb.block j hj) (g1.keep fun j hj _ => hb.block j hj)
 have cL := Lib.hid fun (x : World) (hb : Below w.heap.size w x) => hvars_any x ls _ _ (h2.keep fun j hj _ => hb.block j hj) (g2.keep fun j hj _ => hb.block j hj)
 have cB := Lib.hid fun (x : World) (hb : Below w.heap.size w x) => hstmts_any body.dep body (Nat.le_refl _) x _ _ (h3.keep fun j hj _ => hb.block j hj) (g3.keep fun j hj _ => hb.block j hj)
 clear h1 h2 h3 g1 g2 g3 hn1 hn2 hn3
 obtain ⟨w2, hw2⟩ : ∃ y, y = (w.alloc (.cells (fnC nm A1 A2 A3 n1 c1 n2 c2 n3 c3) 26)).alloc (.cells (fnC nm A1' A2' A3' n1 c1' n2 c2' n3 c3') 26) := ⟨_, rfl⟩
 obtain ⟨g, hg⟩ : ∃ y, y = w.heap.size := ⟨_, rfl⟩
 obtain ⟨g', hg'⟩ : ∃ y, y = w.heap.size + 1 := ⟨_, rfl⟩
 have hb2 : Below w.heap.size w w2 := by rw [hw2]; exact ((Below.refl _ _).alloc (Nat.le_refl _) _).alloc (by simp) _
 have hH : Holds w2 g 26 (fnC nm A1 A2 A3 n1 c1 n2 c2 n3 c3) := by rw [hw2, hg]; exact (Holds.new w _ _).alloc _
 have hH' : Holds w2 g' 26 (fnC nm A1' A2' A3' n1 c1' n2 c2' n3 c3') := by
  have h1 := Holds.new (w.alloc (.cells (fnC nm A1 A2 A3 n1 c1 n2 c2 n3 c3) 26)) 26 (fnC nm A1' A2' A3' n1 c1' n2 c2' n3 c3')
  rw [show (w.alloc (.cells (fnC nm A1 A2 A3 n1 c1 n2 c2 n3 c3) 26)).heap.size = w.heap.size + 1 by simp] at h1
  rw [hw2, hg']
  exact h1
 have fc : ∀ (x : World), Below w2.heap.size w2 x → (x.cell? ⟨g, 0, none⟩ = some (.string (strV nm)) ∧ x.cell? ⟨g, 1, none⟩ = some (.slice A1 n1 c1) ∧ x.cell? ⟨g, 2, none⟩ = some (.slice A2 n2 c2) ∧ x.cell? ⟨g, 3, none⟩ = some (.slice A3 n3 c3) ∧ g < x.heap.size) ∧ (x.cell? ⟨g', 0, none⟩ = some (.string (strV nm)) ∧ x.cell? ⟨g', 1, none⟩ = some (.slice A1' n1 c1') ∧ x.cell? ⟨g', 2, none⟩ = some (.slice A2' n2 c2') ∧ x.cell? ⟨g', 3, none⟩ = some (.slice A3' n3 c3') ∧ g' < x.heap.size) := fun x hb => by
  have y := hH.below hb hH.lt
  have y' := hH'.below hb hH'.lt
  exact ⟨⟨y.cell 0, y.cell 1, y.cell 2, y.cell 3, y.lt⟩, ⟨y'.cell 0, y'.cell 1, y'.cell 2, y'.cell 3, y'.lt⟩⟩
 have hfc := Lib.hid fc
 have hb2' := Lib.hid hb2
 have hfo := Lib.hid hw2.symm
 have hgH := Lib.hid hg.symm
 have hgH' := Lib.hid hg'.symm
 unfold fnC at hfo
 clear hw2 hg hg' hb2 hH hH' fc
 unfold fnC
 go_enter Try.func7, Try.ntmps7
 go_upto_region 1 with (fail)
 rw [hfo.out, hgH'.out, hgH.out]
 clear hfo hgH hgH'
 obtain ⟨⟨q0, q1, q2, q3, ql⟩, ⟨p0, p1, p2, p3, pl⟩⟩ := hfc.out w2 (Below.refl _ _)
 go_wp2_with fail
 refine (cP.out w2 hb2'.out).mono ?_
 rintro e3 w3 ⟨rfl, hb3⟩
 clear q0 q1 q2 q3 ql p0 p1 p2 p3 pl
 obtain ⟨⟨q0, q1, q2, q3, ql⟩, ⟨p0, p1, p2, p3, pl⟩⟩ := hfc.out w3 hb3
 replace hb3 := Lib.hid hb3
 go_wp2_with fail
 refine (cL.out w3 (hb2'.out.trans (hb3.out.mono hb2'.out.size))).mono ?_
 rintro e4 w4 ⟨rfl, hb4⟩
 clear q0 q1 q2 q3 ql p0 p1 p2 p3 pl
 have hb34 := hb3.out.trans (hb4.mono hb3.out.size)
 obtain ⟨⟨q0, q1, q2, q3, ql⟩, ⟨p0, p1, p2, p3, pl⟩⟩ := hfc.out w4 hb34
 replace hb34 := Lib.hid hb34
 clear hb3 hb4
 go_wp2_with fail
 refine (cB.out w4 (hb2'.out.trans (hb34.out.mono hb2'.out.size))).mono ?_
 rintro e5 w5 ⟨rfl, hb5⟩
 have hB5 := Lib.hid (hb2'.out.trans ((hb34.out.trans (hb5.mono hb34.out.size)).mono hb2'.out.size))
 clear q0 q1 q2 q3 ql p0 p1 p2 p3 pl hb34 hb5
 go_wp2_with fail
 go_ret
 exact ⟨rfl, hB5.out⟩
end Go.Proofs.Ytpndglghpojjkaa
/- Package augurhelp: lists of strings held against one another. -/
namespace Go.Proofs.Ytpndglghpojjkaa
open Go.RowKit Go.Deep

set_option maxRecDepth 100000 in
set_option maxHeartbeats 2000000 in
theorem strs_any (w : World) (A1 A2 : Option Addr) (n1 n2 c1 c2 : Nat) (l l' : List S) (h1 : l.length = n1) (h2 : l'.length = n2) (hm : n1 ≤ 100000) (hm2 : n2 ≤ 100000) (r1 : Row w w.heap.size A1 (l.map encStr)) (r2 : Row w w.heap.size A2 (l'.map encStr)) :
  Calls Try.prog 8 #[.slice A1 n1 c1, .slice A2 n2 c2] w fun e w' => e = .returned (.bool (decide (l = l'))) ∧ Below w.heap.size w w' := by
 have h1' := Lib.hid h1
 have h2' := Lib.hid h2
 have r1' := Lib.hid r1
 have r2' := Lib.hid r2
 clear r1 r2 h1 h2
 by_cases hne : n1 = n2
 case neg =>
  have hd := Lib.hid (show decide (l = l') = false by
   simp only [decide_eq_false_iff_not]
   rintro rfl
   exact hne (by rw [← h1'.out, ← h2'.out]))
  have hnn : ((n1 : Int) == n2) = false := by simp; omega
  go_enter Try.func8, Try.ntmps8
  go_wp2_with fail
  go_ret
  exact ⟨by rw [hd.out]; rfl, Below.refl _ _⟩
 subst hne
 go_enter Try.func8, Try.ntmps8
 go_wp2_with fail
 go_loopw [5] (fun i wr => ∃ k : Nat, k ≤ n1 ∧ i = .int .i64 k ∧ Below w.heap.size w wr ∧ l.take k = l'.take k) (fun i _ => n1 - (intOf i).toNat)
 case atStart => exact ⟨0, Nat.zero_le _, rfl, Below.refl _ _, rfl⟩
 obtain ⟨k, hk, rfl, hb, htk⟩ := hrel
 have htk := Lib.hid htk
 rename_i u1
 clear u1
 by_cases hlt : k < n1
 ·have hl1 : k < l.length := by rw [h1'.out]; exact hlt
  have hl2 : k < l'.length := by rw [h2'.out]; exact hlt
  obtain ⟨b1, o1, rfl, _, q1⟩ := (r1'.out.below hb).at_ (k := k) (by simpa using hl1)
  obtain ⟨b2, o2, rfl, _, q2⟩ := (r2'.out.below hb).at_ (k := k) (by simpa using hl2)
  rw [List.getElem_map] at q1 q2
  have hx := Lib.hid (List.take_succ_eq_append_getElem hl1)
  have hy := Lib.hid (List.take_succ_eq_append_getElem hl2)
  have hinj : Hid (l = l' → l[k] = l'[k]) := Lib.hid (by rintro rfl; rfl)
  have hb' := Lib.hid hb
  clear hb
  generalize l[k] = x at q1 hx hinj
  generalize l'[k] = y at q2 hy hinj
  by_cases hxy : x = y
  ·subst hxy
   go_wp2_with fail
   go_region
   all_goals
    go_wp2_with fail
    go_roundw
    case rel => exact ⟨k + 1, by omega, by go_num, hb'.out.drew, by rw [hx.out, hy.out, htk.out]⟩
    case measure => simp [intOf]; omega
  ·have hd := Lib.hid (show decide (l = l') = false by
    simp only [decide_eq_false_iff_not]
    exact fun h => hxy (hinj.out h))
   have hbq : (x == y) = false := by simpa using hxy
   go_wp2_with fail
   go_region
   all_goals
    go_wp2_with fail
    go_ret
    exact ⟨by rw [hd.out]; rfl, hb'.out.drew⟩
 ·obtain rfl : k = n1 := by omega
  have hd := Lib.hid (show decide (l = l') = true by
   have := htk.out
   rw [show l.take k = l by rw [← h1'.out, List.take_length], show l'.take k = l' by rw [← h2'.out, List.take_length]] at this
   simpa using this)
  go_wp2_with fail
  go_ret
  exact ⟨by rw [hd.out]; rfl, hb⟩

end Go.Proofs.Ytpndglghpojjkaa
/- Package names: Check, of cells alone. -/
namespace Go.Proofs.Ytpndglghpojjkaa
open Go.RowKit Go.Deep

theorem encStr_strV (l : List S) : (l.map strV).map Value.string = l.map encStr := by rw [List.map_map]; rfl
set_option maxRecDepth 100000 in
set_option maxHeartbeats 2000000 in
theorem check_any (w : World) (A : Option Addr) (n c : Nat) (l : List S) (hn : l.length = n) (hm : n ≤ 100000) (hne : l ≠ []) (hr : Row w w.heap.size A (l.map encStr)) :
  Calls Try.prog 11 #[.agg #[.slice A n c, .slice none 0 0]] w fun e w' => e = .returned (.int .i64 (if dupB l then 60 else 0 : Nat)) ∧ Below w.heap.size w w' := by
 obtain ⟨w1, hw1⟩ : ∃ y, y = w.alloc (.cells #[.slice A n c, .slice none 0 0] 45) := ⟨_, rfl⟩
 obtain ⟨g, hg⟩ : ∃ y, y = w.heap.size := ⟨_, rfl⟩
 have hb1 : Below w.heap.size w w1 := by rw [hw1]; exact below_new w _
 have hH1 : Holds w1 g 45 #[.slice A n c, .slice none 0 0] := by rw [hw1, hg]; exact Holds.new w _ _
 obtain ⟨b, off, rfl, _, hcell⟩ := hr (by simpa using hne)
 have hcl := Lib.hid (Try.slices_Clone_string b off n c (l.map strV) w1 (by simp [hn]) (by omega) (fun j hj => by
  have hj2 : j < l.length := by simpa using hj
  have h1 := hcell j (encStr l[j]) (by simp [hj2])
  have h2 : w1.cell? ⟨b, off + j, none⟩ = w.cell? ⟨b, off + j, none⟩ := hb1.cell (p := ⟨b, off + j, none⟩) (by assumption)
  rw [h2, h1]
  simp [hj2]
  rfl))
 have q0 : w1.cell? ⟨g, 0, none⟩ = some (.slice (some ⟨b, off, none⟩) n c) := hH1.cell 0
 have q1 : w1.cell? ⟨g, 1, none⟩ = some (.slice none 0 0) := hH1.cell 1
 have ql := hH1.lt
 have hfo := Lib.hid hw1.symm
 have hg' := Lib.hid hg.symm
 have hb1' := Lib.hid hb1
 have hH1' := Lib.hid hH1
 have hn' := Lib.hid hn
 obtain ⟨R, hR⟩ : ∃ R : Nat, R = if dupB l then 60 else 0 := ⟨_, rfl⟩
 rw [← hR]
 have hR' := Lib.hid hR
 clear hw1 hg hb1 hH1 hcell hr hn hR hne
 go_enter Try.func11, Try.ntmps11
 go_upto_region 1 with (fail)
 rw [hfo.out, hg'.out]
 clear hfo hg'
 go_wp2_with fail
 refine hcl.out.mono ?_
 rintro e w2 ⟨v, rfl, ho, -, hb2⟩
 have hH2 := hH1'.out.below hb2 hH1'.out.lt
 clear hcl q0 q1 ql
 have q1 : w2.cell? ⟨g, 1, none⟩ = some (.slice none 0 0) := hH2.cell 1
 have ql := hH2.lt
 rw [List.take_of_length_le (by simp [hn'.out]), encStr_strV, ← hn'.out] at ho
 have htw := Lib.hid (twice_any w1 w2 v l (by rw [hn'.out]; omega) ho hb2)
 have hb12 := Lib.hid (hb1'.out.trans (hb2.mono hb1'.out.size))
 clear ho hH2 hb2 hH1'
 go_wp2_with fail
 go_loopw [3, 12] (fun x i wl => x = v ∧ i = .int .i64 0 ∧ Hid (wl = w2)) (fun _ _ _ => 0)
 case atStart => exact ⟨rfl, rfl, Lib.hid rfl⟩
 obtain ⟨hx, rfl, hw⟩ := hrel
 subst hx
 rename World => wl
 obtain rfl : wl = w2 := hw.out
 clear hw
 go_wp2_with fail
 refine htw.out.mono ?_
 rintro e w3 ⟨rfl, hb3⟩
 have hB3 := Lib.hid (hb1'.out.trans (hb3.mono hb1'.out.size))
 clear htw hb3 q1 ql
 cases hd : dupB l with
 | true =>
  have hRR : Hid (R = 60) := Lib.hid (by rw [hR'.out, hd]; rfl)
  clear hd hR'
  go_wp2_with fail
  go_ret
  exact ⟨by rw [hRR.out]; rfl, hB3.out⟩
 | false =>
  have hRR : Hid (R = 0) := Lib.hid (by rw [hR'.out, hd]; rfl)
  clear hd hR'
  go_wp2_with fail
  go_ret
  exact ⟨by rw [hRR.out]; rfl, hB3.out⟩
end Go.Proofs.Ytpndglghpojjkaa
/- Functions in variables; what Func and Resolve leave there. -/
namespace Go.Proofs.Ytpndglghpojjkaa
open Go.RowKit Go.Deep

/-- A function, where, which error, told together. -/
def FnOut (f : Fnc) (a b : Int) (w : World) (e : Ending) (w' : World) : Prop := ∃ A1 A2 A3 c1 c2 c3, e = .returned (.tuple #[.agg (fnC f.nm A1 A2 A3 f.ps.length c1 f.ls.length c2 f.body.len c3), .int .i64 a, .int .i64 b]) ∧ FnAt w' Evr f (.slice A1 f.ps.length c1) (.slice A2 f.ls.length c2) (.slice A3 f.body.len c3) ∧ Below w.heap.size w w'
theorem FnAt.slices {w : World} {S : Nat → Prop} {f : Fnc} {vp vl vb : Value} (h : FnAt w S f vp vl vb) : ∃ A1 A2 A3 c1 c2 c3, vp = .slice A1 f.ps.length c1 ∧ vl = .slice A2 f.ls.length c2 ∧ vb = .slice A3 f.body.len c3 := by
 obtain ⟨-, ⟨A1, c1, e1, -⟩, ⟨A2, c2, e2, -⟩, ⟨A3, c3, us, e3, -⟩⟩ := h
 exact ⟨A1, A2, A3, c1, c2, c3, e1, e2, e3⟩
theorem FnPost.out {r : Fnc × Nat × Nat} {f : Fnc} {a b : Nat} {w w' : World} {e : Ending} (h : FnPost r w e w') (hr : r = (f, a, b)) : FnOut f a b w e w' := by
 subst hr
 obtain ⟨vp, vl, vb, rfl, hF, hb⟩ := h
 obtain ⟨A1, A2, A3, c1, c2, c3, rfl, rfl, rfl⟩ := hF.slices
 exact ⟨A1, A2, A3, c1, c2, c3, rfl, hF.mono fun _ _ _ => trivial, hb⟩
theorem ResPost.out {r : Fnc × Int × Nat} {f : Fnc} {a : Int} {b : Nat} {w w' : World} {e : Ending} (h : ResPost r w e w') (hr : r = (f, a, b)) : FnOut f a b w e w' := by
 subst hr
 obtain ⟨vp, vl, vb, rfl, hF, hb⟩ := h
 obtain ⟨A1, A2, A3, c1, c2, c3, rfl, rfl, rfl⟩ := hF.slices
 exact ⟨A1, A2, A3, c1, c2, c3, rfl, hF, hb⟩
/-- A function in a variable of its own. -/
structure FnBx (g : Nat) (f : Fnc) (A1 A2 A3 : Option Addr) (c1 c2 c3 : Nat) (w : World) : Prop where
 h : Holds w g 26 (fnC f.nm A1 A2 A3 f.ps.length c1 f.ls.length c2 f.body.len c3)
 at_ : FnAt w Evr f (.slice A1 f.ps.length c1) (.slice A2 f.ls.length c2) (.slice A3 f.body.len c3)
section
variable {g : Nat} {f : Fnc} {A1 A2 A3 : Option Addr} {c1 c2 c3 : Nat} {w w' : World}
theorem FnBx.below (h : FnBx g f A1 A2 A3 c1 c2 c3 w) (hb : Below w.heap.size w w') : FnBx g f A1 A2 A3 c1 c2 c3 w' := ⟨h.h.below hb h.h.lt, h.at_.below hb⟩
theorem FnBx.new (h : FnAt w Evr f (.slice A1 f.ps.length c1) (.slice A2 f.ls.length c2) (.slice A3 f.body.len c3)) : FnBx w.heap.size f A1 A2 A3 c1 c2 c3 (w.alloc (.cells (fnC f.nm A1 A2 A3 f.ps.length c1 f.ls.length c2 f.body.len c3) 26)) := ⟨Holds.new w _ _, h.below (below_new w _)⟩
theorem FnBx.facts (h : FnBx g f A1 A2 A3 c1 c2 c3 w) : w.cell? ⟨g, 0, none⟩ = some (.string (strV f.nm)) ∧ w.cell? ⟨g, 1, none⟩ = some (.slice A1 f.ps.length c1) ∧ w.cell? ⟨g, 2, none⟩ = some (.slice A2 f.ls.length c2) ∧ w.cell? ⟨g, 3, none⟩ = some (.slice A3 f.body.len c3) ∧ g < w.heap.size :=
 ⟨h.h.cell 0, h.h.cell 1, h.h.cell 2, h.h.cell 3, h.h.lt⟩
end
/-- The first of statements, by its cells. -/
theorem first_cells {w : World} {l : Sl} {A : Option Addr} {n c : Nat} (h : SlAt w Evr l (.slice A n c)) (hl : l ≠ .nil) : ∃ b off, A = some ⟨b, off, none⟩ ∧ w.cell? ⟨b, off, none⟩ = some (.int .i64 (headOf l).k) ∧ w.cell? ⟨b, off + 2, none⟩ = some (.string (strV (headOf l).y)) ∧ b < w.heap.size := by
 obtain ⟨A', c', us, e, -, -, hR⟩ := h.rest
 injection e with e1 e2 e3
 subst e1
 cases l with
 | nil => exact absurd rfl hl
 | cons h t e r =>
  obtain ⟨b, off, pe, pf, pc, Aa, ca, At, ct, Al, cl, us', hA, -, -, -, hc, -⟩ := hR.next
  have h0 := hc 0 (by decide)
  have h2 := hc 2 (by decide)
  simp only [Nat.zero_mul, Nat.add_zero] at h0 h2
  exact ⟨b, off, hA, h0, h2, lt_of_cell h0⟩
/-- A list of one string, as a call has left it, and a list that is made behind it. -/
theorem strs_one (w0 w : World) (v : Value) (x : S) (ho : w.ownsRow w0.heap.size 9 1 v [x].length ([x].map encStr)) : ∃ A c, v = .slice A 1 c ∧
  Calls Try.prog 8 #[.slice A 1 c, .slice (some ⟨w.heap.size, 0, none⟩) 1 1] (w.alloc (.cells #[.string ⟨x.toArray⟩] 9)) fun e w' => e = .returned (.bool true) ∧ Below w.heap.size w w' := by
 obtain ⟨A, c, e, hr, -⟩ := own_rowA ho
 refine ⟨A, c, e, ?_⟩
 have hb := below_new w (.cells #[.string ⟨x.toArray⟩] 9)
 refine (strs_any (w.alloc (.cells #[.string ⟨x.toArray⟩] 9)) A (some ⟨w.heap.size, 0, none⟩) 1 1 c 1 [x] [x] rfl rfl (by omega) (by omega) ((hr.below hb).more hb.size) (Row.one w 9 (encStr x))).mono fun e' w' ⟨h1, h2⟩ => ⟨?_, hb.trans (h2.mono hb.size)⟩
 rw [h1]
 simp
theorem resolve_out (w : World) (f r : Fnc) (unit : S) (a : Int) (b : Nat) (h : resolveP f unit = (r, a, b)) {A1 A2 A3 : Option Addr} {c1 c2 c3 : Nat} (hF : FnAt w Evr f (.slice A1 f.ps.length c1) (.slice A2 f.ls.length c2) (.slice A3 f.body.len c3)) :
  Calls Try.prog 6 #[.agg (fnC f.nm A1 A2 A3 f.ps.length c1 f.ls.length c2 f.body.len c3), .string (strV unit)] w (FnOut r a b w) := (resolve_any w f unit A1 A2 A3 c1 c2 c3 hF).mono fun _ _ h2 => h2.out h
set_option maxRecDepth 100000 in
set_option maxHeartbeats 4000000 in
theorem known_any (w : World) : Calls Try.prog 4 #[] w fun e w' => e = .returned (.bool true) ∧ Below w.heap.size w w' := by
 have cF : Calls Try.prog 5 #[.string ⟨#[102, 110, 32, 102, 40, 42, 112, 41, 32, 123, 32, 112, 116, 114, 32, 113, 59, 32, 113, 32, 61, 32, 112, 59, 32, 99, 32, 61, 32, 103, 40, 49, 41, 59, 32, 125]⟩] w (FnOut knF (0 : Nat) (0 : Nat) w) :=
  (func_any w ⟨#[102, 110, 32, 102, 40, 42, 112, 41, 32, 123, 32, 112, 116, 114, 32, 113, 59, 32, 113, 32, 61, 32, 112, 59, 32, 99, 32, 61, 32, 103, 40, 49, 41, 59, 32, 125]⟩ (by decide)).mono fun e w' h => h.out kn_func
 have cF' := Lib.hid cF
 obtain ⟨f, hf⟩ : ∃ f, f = knF := ⟨_, rfl⟩
 obtain ⟨r, hr⟩ : ∃ f, f = knR := ⟨_, rfl⟩
 rw [← hf] at cF'
 have hf' := Lib.hid hf
 have hr' := Lib.hid hr
 clear cF hf hr
 go_enter Try.func4, Try.ntmps4
 go_wp2_with fail
 refine cF'.out.mono ?_
 clear cF'
 rintro e w1 ⟨A1, A2, A3, c1, c2, c3, rfl, hF, hb1⟩
 have hX1 := FnBx.new hF
 have hb2 := below_new w1 (.cells (fnC f.nm A1 A2 A3 f.ps.length c1 f.ls.length c2 f.body.len c3) 26)
 obtain ⟨n1, hn1⟩ : ∃ y, y = f.ps.length := ⟨_, rfl⟩
 obtain ⟨n2, hn2⟩ : ∃ y, y = f.ls.length := ⟨_, rfl⟩
 obtain ⟨n3, hn3⟩ : ∃ y, y = f.body.len := ⟨_, rfl⟩
 obtain ⟨w2, hw2⟩ : ∃ x, x = w1.alloc (.cells (fnC f.nm A1 A2 A3 f.ps.length c1 f.ls.length c2 f.body.len c3) 26) := ⟨_, rfl⟩
 obtain ⟨g1, hg1⟩ : ∃ x, x = w1.heap.size := ⟨_, rfl⟩
 rw [← hw2, ← hg1] at hX1
 rw [← hw2] at hb2
 have hB2 := Lib.hid (hb1.trans (hb2.mono hb1.size))
 have hX1' := Lib.hid hX1
 obtain ⟨q0, q1, q2, q3, ql⟩ := hX1.facts
 have hc2 := Lib.hid (resolve_out w2 f r [102] 0 0 (by rw [hf'.out, hr'.out]; exact kn_res) hX1.at_)
 have hfo := Lib.hid hw2.symm
 have hg1' := Lib.hid hg1.symm
 rw [← hn1, ← hn2, ← hn3] at hc2 hfo ⊢
 rw [← hn1] at q1
 rw [← hn2] at q2
 rw [← hn3] at q3
 unfold fnC strV at hc2
 unfold fnC at hfo ⊢
 have hN := Lib.hid (And.intro hn1 (And.intro hn2 hn3))
 clear hF hb1 hb2 hw2 hg1 hX1 hn1 hn2 hn3
 go_upto_region 2 with (fail)
 rw [hfo.out, hg1'.out]
 clear hfo hg1'
 go_wp2_with fail
 refine hc2.out.mono ?_
 clear hc2 q0 q1 q2 q3 ql
 rintro e w3 ⟨B1, B2, B3, d1, d2, d3, rfl, hR, hb3⟩
 obtain ⟨m1, hm1⟩ : ∃ y, y = r.ps.length := ⟨_, rfl⟩
 obtain ⟨m2, hm2⟩ : ∃ y, y = r.ls.length := ⟨_, rfl⟩
 have hm3 : r.body.len = 2 := by rw [hr'.out]; exact kn_len
 have hY3 := FnBx.new hR
 have hb4 := below_new w3 (.cells (fnC r.nm B1 B2 B3 r.ps.length d1 r.ls.length d2 r.body.len d3) 26)
 obtain ⟨w4, hw4⟩ : ∃ x, x = w3.alloc (.cells (fnC r.nm B1 B2 B3 r.ps.length d1 r.ls.length d2 r.body.len d3) 26) := ⟨_, rfl⟩
 obtain ⟨g4, hg4⟩ : ∃ x, x = w3.heap.size := ⟨_, rfl⟩
 rw [← hw4, ← hg4] at hY3
 rw [← hw4] at hb4
 have hX4 := (hX1'.out.below hb3).below hb4
 have hB4 := Lib.hid ((hB2.out.trans (hb3.mono hB2.out.size)).trans (hb4.mono (hB2.out.trans (hb3.mono hB2.out.size)).size))
 have hY4 := Lib.hid hY3
 obtain ⟨q0, q1, q2, q3, ql⟩ := hX4.facts
 have hc5 := Lib.hid (resolve_out w4 f Fnc.none [103] (-1) 62 (by rw [hf'.out]; exact kn_not) hX4.at_)
 have hfo := Lib.hid hw4.symm
 have hg4' := Lib.hid hg4.symm
 rw [← hN.out.1, ← hN.out.2.1, ← hN.out.2.2] at hc5
 rw [← hN.out.1] at q1
 rw [← hN.out.2.1] at q2
 rw [← hN.out.2.2] at q3
 unfold fnC strV at hc5
 rw [← hm1, ← hm2, hm3] at hfo ⊢
 unfold fnC at hfo ⊢
 have hM := Lib.hid (And.intro hm1 (And.intro hm2 hm3))
 clear hR hb3 hb4 hw4 hg4 hX4 hY3 hm1 hm2 hm3 hX1' hB2
 go_upto_region 3 with (fail)
 rw [hfo.out, hg4'.out]
 clear hfo hg4'
 go_wp2_with fail
 refine hc5.out.mono ?_
 clear hc5 q0 q1 q2 q3 ql
 rintro e w5 ⟨C1, C2, C3, e1, e2, e3, rfl, -, hb5⟩
 have hb6 := below_new w5 (.cells #[.string (strV Fnc.none.nm), .slice C1 Fnc.none.ps.length e1, .slice C2 Fnc.none.ls.length e2, .slice C3 Fnc.none.body.len e3] 26)
 have hY6 := hY4.out.below hb5
 have hB6 := hB4.out.trans (hb5.mono hB4.out.size)
 obtain ⟨w6, hw6⟩ : ∃ x, x = w5.alloc (.cells #[.string (strV Fnc.none.nm), .slice C1 Fnc.none.ps.length e1, .slice C2 Fnc.none.ls.length e2, .slice C3 Fnc.none.body.len e3] 26) := ⟨_, rfl⟩
 rw [← hw6] at hb6
 have hY7 := hY6.below hb6
 have hB7 := Lib.hid (hB6.trans (hb6.mono hB6.size))
 have hY7' := Lib.hid hY7
 have hkh : Hid ((headOf r.body).k = 2 ∧ (headOf r.body).y = [112]) := Lib.hid (by rw [hr'.out]; exact kn_head)
 have hne : r.body ≠ .nil := fun e => by have h1 := hM.out.2.2; rw [e] at h1; simp [Sl.len] at h1
 obtain ⟨b, off, rfl, t0, t2, tl⟩ := first_cells hY7.at_.body hne
 rw [hkh.out.1] at t0
 rw [hkh.out.2] at t2
 unfold strV at t2
 obtain ⟨q0, q1, q2, q3, ql⟩ := hY7.facts
 rw [← hM.out.1] at q1
 rw [← hM.out.2.1] at q2
 rw [hM.out.2.2] at q3
 have cC := Lib.hid (cals_any w6 r B1 B2 (some ⟨b, off, none⟩) d1 d2 d3 hY7.at_ (by rw [hr'.out]; exact kn_cost1))
 have hLC : Hid (canon (each (globs (kindV (r.ps ++ r.ls)) calH) r.body) = [[103]]) := Lib.hid (by rw [hr'.out]; exact kn_calls)
 rw [hLC.out, ← hM.out.1, ← hM.out.2.1, hM.out.2.2] at cC
 unfold fnC at cC
 have hfo := Lib.hid hw6.symm
 clear hb5 hb6 hY6 hB6 hw6 hY7 hkh hne hLC hY4 hB4
 unfold fnC
 go_upto_region 4 with (fail)
 rw [hfo.out]
 clear hfo
 go_wp2_with fail
 refine cC.out.mono ?_
 clear cC q0 q1 q2 q3 ql t0 t2 tl
 rintro e w8 ⟨⟨v, rfl, ho⟩, hb8⟩
 obtain ⟨vA, vc, rfl, hcs⟩ := strs_one w6 w8 v [103] ho
 have hcs' := Lib.hid hcs
 have hY8 := hY7'.out.below hb8
 obtain ⟨q0, q1, q2, q3, ql⟩ := hY8.facts
 rw [← hM.out.1] at q1
 rw [← hM.out.2.1] at q2
 rw [hM.out.2.2] at q3
 have hB8 := Lib.hid (hB7.out.trans (hb8.mono hB7.out.size))
 have hY8' := Lib.hid hY8
 have hl1 : Hid ([[103]].length = 1) := Lib.hid rfl
 clear ho hcs hb8 hY8 hY7' hB7
 go_wp2_with fail
 refine hcs'.out.mono ?_
 clear hcs' q0 q1 q2 q3 ql
 rintro e w9 ⟨rfl, hb9⟩
 have hY9 := hY8'.out.below hb9
 obtain ⟨q0, q1, q2, q3, ql⟩ := hY9.facts
 rw [← hM.out.1] at q1
 rw [← hM.out.2.1] at q2
 rw [hM.out.2.2] at q3
 have cL := Lib.hid (cells_any w9 r B1 B2 (some ⟨b, off, none⟩) d1 d2 d3 hY9.at_ (by rw [hr'.out]; exact kn_cost))
 have hLC : Hid (canon (each (hdP (kindV (r.ps ++ r.ls))) r.body) = [[99]]) := Lib.hid (by rw [hr'.out]; exact kn_cells)
 rw [hLC.out, ← hM.out.1, ← hM.out.2.1, hM.out.2.2] at cL
 unfold fnC at cL
 have hB9 := Lib.hid (hB8.out.trans (hb9.mono hB8.out.size))
 clear hb9 hY9 hLC hY8' hB8
 go_wp2_with fail
 refine cL.out.mono ?_
 clear cL q0 q1 q2 q3 ql
 rintro e wa ⟨⟨v, rfl, ho⟩, hba⟩
 obtain ⟨uA, uc, rfl, hcs⟩ := strs_one w9 wa v [99] ho
 have hcs' := Lib.hid hcs
 have hBa := Lib.hid (hB9.out.trans (hba.mono hB9.out.size))
 clear ho hcs hba hB9
 go_wp2_with fail
 refine hcs'.out.mono ?_
 clear hcs'
 rintro e wb ⟨rfl, hbb⟩
 have hBb := hBa.out.trans (hbb.mono hBa.out.size)
 have hbc := below_new wb (.cells #[.string ⟨#[97]⟩, .string ⟨#[97]⟩] 9)
 have hck := Lib.hid (check_any (wb.alloc (.cells #[.string ⟨#[97]⟩, .string ⟨#[97]⟩] 9)) (some ⟨wb.heap.size, 0, none⟩) 2 2 [[97], [97]] rfl (by omega) (by simp) (Row.fresh wb 9 [.string ⟨#[97]⟩, .string ⟨#[97]⟩]))
 rw [kn_twice] at hck
 have hBc := Lib.hid (hBb.trans (hbc.mono hBb.size))
 clear hBb hbc hbb hBa
 go_wp2_with fail
 refine hck.out.mono ?_
 clear hck
 rintro e wd ⟨rfl, hbd⟩
 have hBd := Lib.hid (hBc.out.trans (hbd.mono hBc.out.size))
 clear hbd hBc
 go_wp2_with fail
 go_ret
 exact ⟨rfl, hBd.out⟩
end Go.Proofs.Ytpndglghpojjkaa
/- What any argument opens to, type by type: slices of elements of any number of cells, structs field by field. No function in sight. -/
namespace Go.Proofs.Ytpndglghpojjkaa
open Go.RowKit Go.ChangeShapes Go.WideShapes Go.Deep

/-- The cells cs read as some datum of type t in W. -/
def Trd (t : TypeId) (W : World) (cs : List Value) : Prop :=
 ∃ (H : Type) (enc : TypeId × Value → H) (fuel : Nat) (x : DataW H × List MemPlace), DataW.trod enc Try.prog W 0 (fun _ => true) true fuel t cs = some x

set_option maxRecDepth 100000 in
theorem ArgOk.trd {t : TypeId} {W : World} {v : Value} (h : ArgOk t W v) : Trd t W v.cells.toList := by
 obtain ⟨H, enc, d, p, base, hok, fuel, hf⟩ := h
 exact ⟨H, enc, fuel, _, hf⟩

theorem flat_at {α : Type} {C : Nat} : ∀ {css : List (List α)} (_ : ∀ x ∈ css, x.length = C) {j : Nat} {u : α}, css.flatten[j]? = some u → ∃ i r cs, css[i]? = some cs ∧ cs[r]? = some u ∧ j = i * C + r ∧ r < C
 | [], _, j, u, h => by simp at h
 | c :: css, hl, j, u, h => by
  have hc := hl c (List.mem_cons_self ..)
  rw [List.flatten_cons] at h
  rcases Nat.lt_or_ge j C with hj | hj
  ·rw [List.getElem?_append_left (by omega)] at h
   exact ⟨0, j, c, rfl, h, by omega, hj⟩
  ·rw [List.getElem?_append_right (by omega), hc] at h
   obtain ⟨i, r, cs, h1, h2, h3, h4⟩ := flat_at (fun x hx => hl x (List.mem_cons_of_mem _ hx)) h
   exact ⟨i + 1, r, cs, by simpa using h1, h2, by rw [Nat.add_mul]; omega, h4⟩
theorem row_of_cells {W : World} {a : Addr} {vs : List Value} (hc : ∀ j u, vs[j]? = some u → W.cell? (a.add j) = some u) : Row W W.heap.size (some a) vs := fun hne => by
 obtain ⟨b, off, spot⟩ := a
 obtain ⟨u0, hu0⟩ : ∃ u, vs[0]? = some u := by
  cases vs with
  | nil => exact absurd rfl hne
  | cons x r => exact ⟨x, rfl⟩
 have h0 := hc 0 u0 hu0
 have hspot : spot = none := by simpa [Addr.add] using World.cell?_spot h0
 subst hspot
 have hadd : ∀ j, (⟨b, off, none⟩ : Addr).add j = ⟨b, off + j, none⟩ := by intro j; unfold Addr.add; split <;> simp_all
 refine ⟨b, off, rfl, ?_, fun j u hu => by rw [← hadd]; exact hc j u hu⟩
 rw [hadd] at h0
 exact block_lt_of_cell h0

theorem add_add' (a : Addr) (i j : Nat) : (a.add i).add j = a.add (i + j) := by
 unfold Addr.add
 split <;> split <;> simp_all <;> omega

theorem Trd.slice {t e : TypeId} {W : World} {cs : List Value} (ht : Try.prog.underlying t = some (.slice e)) (h : Trd t W cs) :
  ∃ (A : Option Addr) (n c : Nat) (css : List (List Value)), cs = [.slice A n c] ∧ css.length = n ∧ n ≤ c ∧ c ≤ maxLen ∧ (∀ x ∈ css, x.length = Try.prog.cellsOf e ∧ Trd e W x) ∧ Row W W.heap.size A css.flatten := by
 obtain ⟨H, enc, fuel, x, hf⟩ := h
 rcases open_slice ht hf with ⟨rfl, _⟩ | ⟨a, len, cap, m, n, D, Pl, rfl, _, hl, hm, hmm, _, hi⟩
 ·exact ⟨none, 0, 0, [], rfl, rfl, Nat.le_refl _, by simp, fun x hx => by simp at hx, Row.nil_ _ _ _⟩
 ·simp only [if_true] at hmm
  subst hmm
  obtain ⟨f, hfl⟩ := choose_lt (p := fun i cs' => W.cells? 0 (a.add (i * Try.prog.cellsOf e)) (Try.prog.cellsOf e) = some cs' ∧ DataW.trod enc Try.prog W 0 (fun _ => true) true n e cs' = some (D i, Pl i)) (fun i him => hi i him)
  have hlen : ∀ x ∈ (List.range len).map f, x.length = Try.prog.cellsOf e := by
   intro x hx
   obtain ⟨i, hi', rfl⟩ := List.mem_map.1 hx
   exact (World.cells?_some (hfl i (by have := List.mem_range.1 hi'; omega)).1).2.1
  refine ⟨some a, len, m, (List.range len).map f, rfl, by simp, hl, hm, fun x hx => ⟨hlen x hx, ?_⟩, row_of_cells fun j u hu => ?_⟩
  ·obtain ⟨i, hi', rfl⟩ := List.mem_map.1 hx
   exact ⟨H, enc, n, _, (hfl i (by have := List.mem_range.1 hi'; omega)).2⟩
  ·obtain ⟨i, r, cs, h1, h2, rfl, hr⟩ := flat_at hlen hu
   have hil : i < len := by
    rcases Nat.lt_or_ge i len with h | h
    ·exact h
    ·rw [List.getElem?_eq_none (by simp; omega)] at h1; cases h1
   have e1 : f i = cs := by simpa [hil] using h1
   obtain ⟨_, _, hat⟩ := World.cells?_some (hfl i (by omega)).1
   have := hat r hr
   rw [add_add'] at this
   rw [this, e1, h2]
theorem Trd.int {k : IntKind} {t : TypeId} {W : World} {cs : List Value} (ht : Try.prog.underlying t = some (.int k)) (h : Trd t W cs) : ∃ n, cs = [.int k n] ∧ (Lit.int k n).wf = true := by
 obtain ⟨H, enc, fuel, x, hf⟩ := h
 obtain ⟨n, h1, _, h2⟩ := DataW.trod_int ht hf
 exact ⟨n, h1, h2⟩
theorem Trd.bool {t : TypeId} {W : World} {cs : List Value} (ht : Try.prog.underlying t = some .bool) (h : Trd t W cs) : ∃ b, cs = [.bool b] := by
 obtain ⟨H, enc, fuel, x, hf⟩ := h
 obtain ⟨b, h1, _⟩ := DataW.trod_bool ht hf
 exact ⟨b, h1⟩
theorem Trd.string {t : TypeId} {W : World} {cs : List Value} (ht : Try.prog.underlying t = some .string) (h : Trd t W cs) : ∃ s : ByteArray, cs = [.string s] ∧ s.size ≤ maxLen := by
 obtain ⟨H, enc, fuel, x, hf⟩ := h
 obtain ⟨b, h1, _, h2⟩ := DataW.trod_string ht hf
 exact ⟨b, h1, h2⟩
theorem Trd.struct {fs : Array Field} {t : TypeId} {W : World} {cs : List Value} (ht : Try.prog.underlying t = some (.struct fs)) (h : Trd t W cs) :
  cs.length = Try.prog.cellsOf t ∧ ∀ (i : Nat) (f : Field), fs[i]? = some f → Trd f.type W ((cs.drop f.offset).take (Try.prog.cellsOf f.type)) := by
 obtain ⟨H, enc, fuel, x, hf⟩ := h
 obtain ⟨xs, n, _, _, hl, hx, hg⟩ := DataW.trod_struct ht hf
 refine ⟨hl, fun i f hif => ?_⟩
 have hlt : i < xs.length := by rw [hx]; exact (Array.getElem?_eq_some_iff.1 hif).1
 exact ⟨H, enc, n, xs[i], by rw [hg i f hif]; exact List.getElem?_eq_getElem hlt⟩

/-- Elements of one cell: each read by itself. -/
theorem Trd.row {α : Type} {t e : TypeId} {W : World} {cs : List Value} {f : α → Value} {p : α → Prop} (ht : Try.prog.underlying t = some (.slice e)) (hd : ∀ x, Trd e W x → ∃ a, x = [f a] ∧ p a) (h : Trd t W cs) :
  ∃ (A : Option Addr) (n c : Nat) (l : List α), cs = [.slice A n c] ∧ l.length = n ∧ n ≤ c ∧ c ≤ maxLen ∧ (∀ a ∈ l, p a) ∧ Row W W.heap.size A (l.map f) := by
 obtain ⟨A, n, c, css, rfl, hn, hc, hm, hx, hr⟩ := h.slice ht
 have : ∀ css : List (List Value), (∀ x ∈ css, Trd e W x) → ∃ l : List α, l.length = css.length ∧ css.flatten = l.map f ∧ ∀ a ∈ l, p a := by
  intro css
  induction css with
  | nil => exact fun _ => ⟨[], rfl, rfl, by simp⟩
  | cons y r ih =>
   intro hy
   obtain ⟨l, h1, h2, h3⟩ := ih fun x hx => hy x (List.mem_cons_of_mem _ hx)
   obtain ⟨a, rfl, ha⟩ := hd y (hy y (List.mem_cons_self ..))
   refine ⟨a :: l, by simp [h1], by simp [h2], fun x hx => ?_⟩
   rcases List.mem_cons.1 hx with rfl | hx
   ·exact ha
   ·exact h3 x hx
 obtain ⟨l, h1, h2, h3⟩ := this css fun x hx' => (hx x hx').2
 exact ⟨A, n, c, l, rfl, by omega, hc, hm, h3, by rw [← h2]; exact hr⟩
end Go.Proofs.Ytpndglghpojjkaa
/- The walk of NamesAgain: what is resolved is resolved as it is. -/
namespace Go.Proofs.Ytpndglghpojjkaa
open Go.RowKit Go.Deep Go.Maps Go.ChangeShapes Go.WideShapes
open Go.ChangeMaps (open_string)

set_option maxRecDepth 100000 in
theorem ArgOk.text {W : World} {v : Value} (h : ArgOk 9 W v) : ∃ s : ByteArray, v = .string s ∧ s.size ≤ maxLen := by
 obtain ⟨s, e, hs⟩ := h.trd.string Try.underlying9
 obtain ⟨H, enc, d, p, base, hok, hf⟩ := h
 obtain ⟨s', rfl, h2⟩ := open_string Try.underlying9 hok hf
 simp [Value.cells] at e
 subst e
 exact ⟨_, rfl, hs⟩
theorem res_zero {f r : Fnc} {unit : S} {a : Int} (h : resolveP f unit = (r, a, 0)) : a = 0 ∧ r = ⟨f.nm, f.ps, f.ls, listP (kindV (f.ps ++ f.ls)) f.body⟩ ∧ firstP (kindV (f.ps ++ f.ls)) f.body = none ∧ dupB (fNames (f.ps ++ f.ls)) = false ∧ f.nm = unit ∧ f.nm ≠ globS := by
 unfold resolveP at h
 by_cases h1 : f.nm ≠ unit ∨ unit = globS
 ·rw [if_pos h1] at h; cases h
 ·rw [if_neg h1] at h
  unfold resTwice at h
  have e1 : f.nm = unit := Classical.byContradiction fun e => h1 (.inl e)
  have e2 : f.nm ≠ globS := fun e => h1 (.inr (e1 ▸ e))
  cases hd : dupB (fNames (f.ps ++ f.ls)) with
  | true => rw [hd, if_pos rfl] at h; cases h
  | false =>
   rw [hd, if_neg (by simp)] at h
   cases hf : firstP (kindV (f.ps ++ f.ls)) f.body with
   | some b => rw [hf] at h; unfold resBody at h; cases h
   | none =>
    rw [hf] at h
    unfold resBody at h
    simp only [Prod.mk.injEq] at h
    exact ⟨h.2.1.symm, h.1.symm, rfl, rfl, e1, e2⟩
theorem res_of {f : Fnc} (h1 : f.nm ≠ globS) (h2 : dupB (fNames (f.ps ++ f.ls)) = false) (h3 : firstP (kindV (f.ps ++ f.ls)) f.body = none) : resolveP f f.nm = (⟨f.nm, f.ps, f.ls, listP (kindV (f.ps ++ f.ls)) f.body⟩, 0, 0) := by
 unfold resolveP resTwice
 rw [if_neg (by simp only [ne_eq, not_true_eq_false, false_or]; exact h1), h2, if_neg (by simp), h3]
 rfl
/-- What is resolved is resolved as it is. -/
theorem resolve_again {f r : Fnc} {a : Int} (hw : WfS f.body) (h : resolveP f f.nm = (r, a, 0)) : resolveP r r.nm = (r, 0, 0) := by
 obtain ⟨-, hr, hf, hd, -, hg⟩ := res_zero h
 obtain ⟨g1, g2⟩ := first_again hw hf
 subst hr
 have := res_of (f := ⟨f.nm, f.ps, f.ls, listP (kindV (f.ps ++ f.ls)) f.body⟩) hg hd g1
 rw [this]
 simp only [g2]
set_option maxRecDepth 100000 in
set_option maxHeartbeats 4000000 in
theorem again_walk (W : World) (v0 : Value) (o0 : ArgOk 9 W v0) : Calls Try.prog 3 #[v0] W fun e w' => e = .returned (.bool true) ∧ Below W.heap.size W w' := by
 obtain ⟨s, rfl, hs⟩ := o0.text
 have hs' := Lib.hid hs
 clear hs o0
 by_cases hl : s.size ≤ 1500
 case neg =>
  go_enter Try.func3, Try.ntmps3
  go_wp2_with fail
  refine (known_any W).mono ?_
  rintro e w1 ⟨rfl, hb1⟩
  have hB1 := Lib.hid hb1
  clear hb1
  go_wp2_with fail
  go_ret
  exact ⟨rfl, hB1.out⟩
 go_enter Try.func3, Try.ntmps3
 go_wp2_with fail
 refine (known_any W).mono ?_
 rintro e w1 ⟨rfl, hb1⟩
 obtain ⟨f, a, b, hfab⟩ : ∃ f a b, funcF s.data.toList = (f, a, b) := ⟨_, _, _, rfl⟩
 have hwf : WfS f.body := by have := (funcF_wf s.data.toList).body; rw [hfab] at this; exact this
 have cF := Lib.hid ((func_any w1 s hs'.out).mono fun e w' h => h.out hfab)
 have hwf' := Lib.hid hwf
 have hB1 := Lib.hid hb1
 clear hb1 hfab hwf
 go_wp2_with fail
 refine cF.out.mono ?_
 clear cF
 rintro e w2 ⟨A1, A2, A3, c1, c2, c3, rfl, hF, hb2⟩
 have hX3 := FnBx.new hF
 have hb3 := below_new w2 (.cells (fnC f.nm A1 A2 A3 f.ps.length c1 f.ls.length c2 f.body.len c3) 26)
 obtain ⟨w3, hw3⟩ : ∃ x, x = w2.alloc (.cells (fnC f.nm A1 A2 A3 f.ps.length c1 f.ls.length c2 f.body.len c3) 26) := ⟨_, rfl⟩
 obtain ⟨g3, hg3⟩ : ∃ x, x = w2.heap.size := ⟨_, rfl⟩
 rw [← hw3, ← hg3] at hX3
 rw [← hw3] at hb3
 have hB3 := Lib.hid ((hB1.out.trans (hb2.mono hB1.out.size)).trans (hb3.mono (hB1.out.trans (hb2.mono hB1.out.size)).size))
 have hfo := Lib.hid hw3.symm
 have hg3' := Lib.hid hg3.symm
 have hX3' := Lib.hid hX3
 obtain ⟨n1, hn1⟩ : ∃ y, y = f.ps.length := ⟨_, rfl⟩
 obtain ⟨n2, hn2⟩ : ∃ y, y = f.ls.length := ⟨_, rfl⟩
 obtain ⟨n3, hn3⟩ : ∃ y, y = f.body.len := ⟨_, rfl⟩
 have hN := Lib.hid (And.intro hn1 (And.intro hn2 hn3))
 rw [← hn1, ← hn2, ← hn3] at hfo ⊢
 unfold fnC at hfo ⊢
 clear hF hb2 hb3 hw3 hg3 hX3 hn1 hn2 hn3 hB1
 by_cases hb0 : b = 0
 case neg =>
  have hbz : ((b : Int) != 0) = true := by simp; omega
  clear hb0
  go_upto_region 6 with (fail)
  rw [hfo.out, hg3'.out]
  clear hfo hg3'
  go_wp2_with fail
  go_ret
  exact ⟨rfl, hB3.out⟩
 subst hb0
 go_upto_region 6 with (fail)
 rw [hfo.out, hg3'.out]
 clear hfo hg3'
 obtain ⟨r, a2, b2, hrab⟩ : ∃ r a b, resolveP f f.nm = (r, a, b) := ⟨_, _, _, rfl⟩
 have cR := Lib.hid (resolve_out w3 f r f.nm a2 b2 hrab hX3'.out.at_)
 rw [← hN.out.1, ← hN.out.2.1, ← hN.out.2.2] at cR
 unfold fnC at cR
 have hag : Hid (b2 = 0 → resolveP r r.nm = (r, 0, 0)) := Lib.hid fun h => by subst h; exact resolve_again hwf'.out hrab
 obtain ⟨q0, q1, q2, q3, ql⟩ := hX3'.out.facts
 rw [← hN.out.1] at q1
 rw [← hN.out.2.1] at q2
 rw [← hN.out.2.2] at q3
 clear hrab
 go_wp2_with fail
 refine cR.out.mono ?_
 clear cR q0 q1 q2 q3 ql hX3' hN
 rintro e w4 ⟨B1, B2, B3, d1, d2, d3, rfl, hR, hb4⟩
 have hX5 := FnBx.new hR
 have hb5 := below_new w4 (.cells (fnC r.nm B1 B2 B3 r.ps.length d1 r.ls.length d2 r.body.len d3) 26)
 obtain ⟨w5, hw5⟩ : ∃ x, x = w4.alloc (.cells (fnC r.nm B1 B2 B3 r.ps.length d1 r.ls.length d2 r.body.len d3) 26) := ⟨_, rfl⟩
 obtain ⟨g5, hg5⟩ : ∃ x, x = w4.heap.size := ⟨_, rfl⟩
 rw [← hw5, ← hg5] at hX5
 rw [← hw5] at hb5
 have hB5 := Lib.hid ((hB3.out.trans (hb4.mono hB3.out.size)).trans (hb5.mono (hB3.out.trans (hb4.mono hB3.out.size)).size))
 have hfo := Lib.hid hw5.symm
 have hg5' := Lib.hid hg5.symm
 have hX5' := Lib.hid hX5
 obtain ⟨n1, hn1⟩ : ∃ y, y = r.ps.length := ⟨_, rfl⟩
 obtain ⟨n2, hn2⟩ : ∃ y, y = r.ls.length := ⟨_, rfl⟩
 obtain ⟨n3, hn3⟩ : ∃ y, y = r.body.len := ⟨_, rfl⟩
 have hN := Lib.hid (And.intro hn1 (And.intro hn2 hn3))
 rw [← hn1, ← hn2, ← hn3] at hfo ⊢
 unfold fnC at hfo ⊢
 clear hR hb4 hb5 hw5 hg5 hX5 hn1 hn2 hn3 hB3
 by_cases hb0 : b2 = 0
 case neg =>
  have hbz : ((b2 : Int) != 0) = true := by simp; omega
  clear hb0
  go_upto_region 9 with (fail)
  rw [hfo.out, hg5'.out]
  clear hfo hg5'
  go_wp2_with fail
  go_ret
  exact ⟨rfl, hB5.out⟩
 subst hb0
 go_upto_region 9 with (fail)
 rw [hfo.out, hg5'.out]
 clear hfo hg5'
 have cQ := Lib.hid (resolve_out w5 r r r.nm 0 0 (hag.out (by simp)) hX5'.out.at_)
 rw [← hN.out.1, ← hN.out.2.1, ← hN.out.2.2] at cQ
 unfold fnC at cQ
 obtain ⟨q0, q1, q2, q3, ql⟩ := hX5'.out.facts
 rw [← hN.out.1] at q1
 rw [← hN.out.2.1] at q2
 rw [← hN.out.2.2] at q3
 clear hag
 go_wp2_with fail
 refine cQ.out.mono ?_
 clear cQ q0 q1 q2 q3 ql
 rintro e w6 ⟨C1, C2, C3, e1, e2, e3, rfl, hQ, hb6⟩
 have hX7 := FnBx.new hQ
 have hb7 := below_new w6 (.cells (fnC r.nm C1 C2 C3 r.ps.length e1 r.ls.length e2 r.body.len e3) 26)
 obtain ⟨w7, hw7⟩ : ∃ x, x = w6.alloc (.cells (fnC r.nm C1 C2 C3 r.ps.length e1 r.ls.length e2 r.body.len e3) 26) := ⟨_, rfl⟩
 obtain ⟨g7, hg7⟩ : ∃ x, x = w6.heap.size := ⟨_, rfl⟩
 rw [← hw7, ← hg7] at hX7
 rw [← hw7] at hb7
 have hB7 := Lib.hid ((hB5.out.trans (hb6.mono hB5.out.size)).trans (hb7.mono (hB5.out.trans (hb6.mono hB5.out.size)).size))
 have hX5'' := (hX5'.out.below hb6).below hb7
 have cH := Lib.hid (hfunc_any w7 r C1 C2 C3 B1 B2 B3 e1 e2 e3 d1 d2 d3 hX7.at_ hX5''.at_)
 obtain ⟨q0, q1, q2, q3, ql⟩ := hX5''.facts
 obtain ⟨p0, p1, p2, p3, pl⟩ := hX7.facts
 rw [← hN.out.1] at q1 p1
 rw [← hN.out.2.1] at q2 p2
 rw [← hN.out.2.2] at q3 p3
 have hfo := Lib.hid hw7.symm
 have hg7' := Lib.hid hg7.symm
 rw [← hN.out.1, ← hN.out.2.1, ← hN.out.2.2] at hfo cH ⊢
 unfold fnC at hfo cH ⊢
 clear hQ hb6 hb7 hw7 hg7 hX7 hX5'' hX5' hB5 hN
 go_upto_region 12 with (fail)
 rw [hfo.out, hg7'.out]
 clear hfo hg7'
 go_wp2_with fail
 refine cH.out.mono ?_
 clear cH q0 q1 q2 q3 ql p0 p1 p2 p3 pl
 rintro e w8 ⟨rfl, hb8⟩
 have hB8 := Lib.hid (hB7.out.trans (hb8.mono hB7.out.size))
 clear hb8 hB7
 go_wp2_with fail
 go_ret
 exact ⟨rfl, hB8.out⟩
end Go.Proofs.Ytpndglghpojjkaa
