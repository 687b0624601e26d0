/-
  The walks of the reference's writers (augurref1): Int, Text, Bool, Ival.
-/
import Derived.Test.YtimhghmnnibajaaCodeV
namespace Go.Proofs.Ytimhghmnnibajaa
open Go.RowKit Go.ChangeShapes Go.WideShapes Go.Deep

/-- A row of the call's own that holds l, out of one with block M or made behind W0. -/
def OwnF (W0 : World) (B : Nat) (M : Option Nat) (l : List UInt8) (w : World) (v : Value) : Prop :=
  w.ownsRow B 5 1 v l.length (l.map byteV) ∧ (v.ownBlock = M ∨ ∃ k, v.ownBlock = some k ∧ W0.heap.size ≤ k)
/-- A cell that a writer into the block M leaves as it was. -/
def Fact3 (W0 : World) (M : Option Nat) (p : Addr) (v : Value) : Prop := p.block < W0.heap.size ∧ M ≠ some p.block ∧ W0.cell? p = some v
section
variable {W0 w w' : World} {B : Nat} {M MV : Option Nat} {l l2 : List UInt8} {v : Value} {e : Ending}
theorem OwnF.sr (h : OwnF W0 B M l w v) : Sr w B v l v.ownBlock := .inl ⟨h.1, rfl⟩
theorem OwnF.below (h : OwnF W0 B M l w v) (hb : Below w.heap.size w w') : OwnF W0 B M l w' v := ⟨own_below h.1 hb, h.2⟩
theorem Refd.link (r : Refd w B MV l2 e w') (hM : Writes [M] W0 w) (h : MV = M ∨ ∃ k, MV = some k ∧ W0.heap.size ≤ k) : ∃ v', e = .returned v' ∧ OwnF W0 B M l2 w' v' ∧ Writes [M] W0 w' := by
  obtain ⟨v', he, ho, hM2, hF⟩ := r
  refine ⟨v', he, ⟨ho, ?_⟩, hM.then_ hM2 fun k hk e => ?_⟩
  · rcases hF with hF | ⟨k, hF, hk⟩
    · rw [hF]
      exact h
    · exact .inr ⟨k, hF, Nat.le_trans hM.size hk⟩
  · simp only [List.mem_cons, List.mem_nil_iff, or_false] at e ⊢
    rcases h with h | ⟨j, h, hj⟩
    · rw [e, h]
    · rw [h] at e
      injection e with e
      omega
theorem OwnF.refd (h : OwnF W0 B M l w v) (hM : Writes [M] W0 w) : Refd W0 B M l (.returned v) w := ⟨v, rfl, h.1, hM, h.2⟩
theorem Writes.fact3 {p : Addr} (hM : Writes [M] W0 w) (h : Fact3 W0 M p v) : w.cell? p = some v := by
  have := hM.block p.block h.1 (by simpa using fun e => h.2.1 e.symm)
  exact (World.cell?_of_block this).trans h.2.2
theorem Holds.fact3 {k : Nat} {t : TypeId} {cs : Array Value} (h : Holds W0 k t cs) (hk : M ≠ some k) (i : Nat) (hv : cs[i]? = some v) : Fact3 W0 M ⟨k, i, none⟩ v := ⟨h.lt, hk, by rw [h.cell]; exact hv⟩
end

theorem refNum_z (w : World) (B : Nat) (v : Value) (l : List UInt8) (M : Option Nat) (z : Int) (hv : Sr w B v l M) (hB : B ≤ w.heap.size) (h0 : 0 ≤ z) (h1 : z < 18446744073709551616) (hlen : l.length ≤ 99999999900) :
    Calls Try.prog 63 #[v, .int .u64 z] w (Refd w B M (l ++ numE z.toNat)) := by
  obtain ⟨n, rfl⟩ := Int.eq_ofNat_of_zero_le h0
  exact refNum_any w B v l M n hv hB (by omega) hlen
set_option maxRecDepth 100000 in
theorem refInt_any (w : World) (B : Nat) (v : Value) (l : List UInt8) (M : Option Nat) (z : Int) (hv : Sr w B v l M) (hB : B ≤ w.heap.size) (hz : i64ok z) (hlen : l.length ≤ 99999999900) :
    Calls Try.prog 64 #[v, .int .i64 z] w (Refd w B M (l ++ intE z)) := by
  obtain ⟨h1, h2⟩ := hz
  have hv := Lib.hid hv
  rename_i hv'
  clear hv'
  by_cases h0 : z < 0
  · go_enter Try.func64, Try.ntmps64
    go_wp2_with fail
    (with_reducible refine (refNum_z _ B v l M _ hv.out ?b1 ?b2 ?b3 ?b4).mono ?_)
    case b1 => omega
    case b2 => omega
    case b3 => omega
    case b4 => omega
    intro e w' h
    rw [show numE (-(z + 1) * 2 + 1).toNat = intE z by unfold intE zigN; rw [if_neg (by omega)]; congr 1; omega] at h
    obtain ⟨v', rfl, h3⟩ := h
    go_wp2
    go_ret
    exact ⟨v', rfl, h3⟩
  · go_enter Try.func64, Try.ntmps64
    go_wp2_with fail
    (with_reducible refine (refNum_z _ B v l M _ hv.out ?b1 ?b2 ?b3 ?b4).mono ?_)
    case b1 => omega
    case b2 => omega
    case b3 => omega
    case b4 => omega
    intro e w' h
    rw [show numE (z * 2).toNat = intE z by unfold intE zigN; rw [if_pos (by omega)]; congr 1; omega] at h
    obtain ⟨v', rfl, h3⟩ := h
    go_wp2
    go_ret
    exact ⟨v', rfl, h3⟩

set_option maxRecDepth 100000 in
set_option maxHeartbeats 2000000 in
theorem refText_any (w : World) (B : Nat) (v : Value) (l : List UInt8) (M : Option Nat) (s : ByteArray) (hv : Sr w B v l M) (hB : B ≤ w.heap.size) (hs : s.size ≤ 10000000000) (hlen : l.length ≤ 80000000000) :
    Calls Try.prog 33 #[v, .string s] w (Refd w B M (l ++ txtE s)) := by
  obtain ⟨iA, hiA, hzA0, hzA1, hzA2⟩ := info_parts Try.infoByte
  have hv := Lib.hid hv
  rename_i hv'
  clear hv'
  go_enter Try.func33, Try.ntmps33
  go_wp2_with fail
  (with_reducible refine (refNum_z _ B v l M _ hv.out ?b1 ?b2 ?b3 ?b4).mono ?_)
  case b1 => omega
  case b2 => omega
  case b3 => omega
  case b4 => omega
  intro e w' h
  rw [Int.toNat_natCast] at h
  obtain ⟨v', rfl, ho, hM, hF⟩ := h
  have hn := numE_len10 s.size (by omega)
  have hl2 : (l ++ numE s.size).length ≤ 99999999999 := by rw [List.length_append]; omega
  have hM := Lib.hid hM
  have ho := Lib.hid ho
  have hF := Lib.hid hF
  have hsz := hM.out.size
  go_wp2_with (at_builtin
               refine wpList_append_text _ rfl (.tmp 9) (.tmp 10) 26 9 rfl B 5 iA Try.underlying26 Try.underlying9 hiA hzA0 hzA1 hzA2 v' _ _ rfl ho.out s rfl (by unfold maxLen; omega) (by omega) (by omega) ?_
               intro u3 w3 ho3 hg hat)
  go_ret
  have h3 : Refd w' B v'.ownBlock (l ++ txtE s) (.returned u3) w3 := ⟨u3, rfl, by
    have e1 : l ++ txtE s = l ++ numE s.size ++ s.data.toList := by rw [txtE, List.append_assoc]
    rw [e1, List.map_append, show (l ++ numE s.size ++ s.data.toList).length = (l ++ numE s.size).length + s.size from by rw [List.length_append, Array.length_toList]; rfl]
    exact ho3, Writes.of_grown hg (by simp), hat.imp id fun h => ⟨_, h, Nat.le_refl _⟩⟩
  obtain ⟨v4, he, h4, h5⟩ := h3.link hM.out hF.out
  injection he with he
  subst he
  exact h4.refd h5

set_option maxRecDepth 100000 in
set_option maxHeartbeats 2000000 in
theorem refBool_any (w : World) (B : Nat) (v : Value) (l : List UInt8) (M : Option Nat) (b : Bool) (hv : Sr w B v l M) (hB : B ≤ w.heap.size) (hlen : l.length ≤ 99999999900) :
    Calls Try.prog 65 #[v, .bool b] w (Refd w B M (l ++ boolE b)) := by
  obtain ⟨iA, hiA, hzA0, hzA1, hzA2⟩ := info_parts Try.infoByte
  have hv := Lib.hid hv
  rename_i hv'
  clear hv'
  cases b with
  | true =>
    go_enter Try.func65, Try.ntmps65
    go_wp2_with (at_builtin
                 refine wpList_append_sr rfl (.tmp 6) (.tmp 7) 26 rfl B iA Try.underlying26 hiA hzA0 hzA1 hzA2 v _ M rfl (hv.out.below (below_new _ _)) w.heap.size 1 _ rfl ((Holds.new _ _ _).cell 0) rfl (by omega) (by simp; omega) ?_
                 intro v3 w3 ho hg hat)
    go_ret
    exact ⟨v3, rfl, ho, (Writes.alloc _ _ _).trans hg, hat.imp id fun ⟨k, h, hk⟩ => ⟨k, h, by simp at hk; omega⟩⟩
  | false =>
    go_enter Try.func65, Try.ntmps65
    go_wp2_with (at_builtin
                 refine wpList_append_sr rfl (.tmp 9) (.tmp 10) 26 rfl B iA Try.underlying26 hiA hzA0 hzA1 hzA2 v _ M rfl (hv.out.below (below_new _ _)) w.heap.size 0 _ rfl ((Holds.new _ _ _).cell 0) rfl (by omega) (by simp; omega) ?_
                 intro v3 w3 ho hg hat)
    go_ret
    exact ⟨v3, rfl, ho, (Writes.alloc _ _ _).trans hg, hat.imp id fun ⟨k, h, hk⟩ => ⟨k, h, by simp at hk; omega⟩⟩
end Go.Proofs.Ytimhghmnnibajaa
