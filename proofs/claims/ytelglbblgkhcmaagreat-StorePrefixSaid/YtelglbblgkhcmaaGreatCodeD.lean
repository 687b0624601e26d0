/-
  The walks of package code's writer: Bool, Bytes; slices.Clone; NewWriter.
-/
import Derived.Test.YtelglbblgkhcmaaGreatCodeC
namespace Go.Proofs.YtelglbblgkhcmaaGreat
open Go.RowKit

set_option maxRecDepth 100000 in
set_option maxHeartbeats 2000000 in
theorem bool_any (w : World) (B g : Nat) (t : TypeId) (v : Value) (l : List UInt8) (A : Option Addr) (c : Nat) (zs : List Bool) (hw : Wrt w B g t v l) (hB : B ≤ w.heap.size)
    (hA : Row w w.heap.size A (zs.map Value.bool)) (hoff : zs ≠ [] → blk A ∉ [some g, v.ownBlock]) (hlen : l.length + 1 * zs.length ≤ 99999999990) :
    Calls Tryz.prog 53 #[.pointer (some ⟨g, 0, none⟩), .slice A zs.length c] w (Wrote w B g t v (l ++ zs.flatMap boolE)) := by
  obtain ⟨iA, hiA, hzA0, hzA1, hzA2⟩ := info_parts Tryz.infoByte
  have hll := Lib.hid (flat_len' boolE 1 zs fun z _ => by simp [boolE])
  go_enter Tryz.func53, Tryz.ntmps53
  go_wp2
  have hA := Lib.hid hA
  have hoff := Lib.hid hoff
  go_loopw [8] (fun i wr => ∃ k : Nat, k ≤ zs.length ∧ i = .int .i64 k ∧ AtW boolE w B g t v l zs k wr) (fun i _ => zs.length - (intOf i).toNat)
  case atStart => exact ⟨0, by omega, rfl, v, by simpa using hw, Writes.refl _ _, Fresh.refl _ _⟩
  case round =>
    obtain ⟨k, hk, rfl, u, hu, hM, hF⟩ := hrel
    by_cases hlt : k < zs.length
    · obtain ⟨b, off, rfl, hb, hcell0⟩ := (hM.row hA.out (Nat.le_refl _) (fun _ => hoff.out (by rintro rfl; simp at hlt))).at_ (k := k) (by simpa using hlt)
      have hcell : wr.cell? ⟨b, off + k, none⟩ = some (.bool zs[k]) := by rw [hcell0]; simp
      clear hcell0
      have hsz := hM.size
      have hlk := hll.out k
      have hnx : Hid (∀ e w', Wrote wr B g t u (l ++ (zs.take k).flatMap boolE ++ boolE zs[k]) e w' → AtW boolE w B g t v l zs (k + 1) w') := Lib.hid fun e w' h => AtW.step hlt rfl hM hF h
      have hcl : (l ++ (zs.take k).flatMap boolE).length ≤ 99999999990 := by simp only [List.length_append]; omega
      generalize l ++ (zs.take k).flatMap boolE = cur at *
      generalize hzd : zs[k] = zk at *
      clear hzd
      have c2 : wr.cell? ⟨g, 0, none⟩ = some u := by rw [hu.cell.cell 0]; rfl
      have hu := Lib.hid hu
      cases zk with
      | true =>
        go_wp2_with (at_builtin
                     refine wpList_append_row _ rfl (.tmp 17) (.tmp 18) 37 rfl B 5 iA (.int .u8 0) 1 Tryz.underlying37 hiA hzA0 hzA1 hzA2 rfl u _ _ rfl (hu.out.own.alloc _) _ (some ⟨wr.heap.size, 0, none⟩) 1 1 [.int .u8 1] rfl rfl (Row.one _ _ _) (by intro u hu; simp at hu; subst hu; rfl) (by unfold maxLen; omega) (by omega) (by simp; omega) ?_
                     intro u3 w3 ho hg hat
                     obtain ⟨hw3, hM4, hF4⟩ := hu.out.grow (bs := boolE true) (below_new _ _) ho (by simp [boolE]) (by rw [List.map_append]; rfl) hg hat
                     have hr3 := hnx.out _ _ ⟨rfl, u3, hw3, hM4, hF4⟩
                     have c3 : w3.cell? ⟨g, 0, none⟩ = some u := by rw [((hu.out.cell.alloc _).grown hg hu.out.off).cell 0]; rfl
                     have f3 := (((hu.out.cell.alloc _).grown hg hu.out.off).frozen 0)
                     obtain ⟨A3, c3', hv3, _⟩ := own_row ho
                     subst hv3
                     clear ho hg hat c2)
        go_roundw
        case rel => exact ⟨k + 1, by omega, by go_num, hr3⟩
        case measure => simp [intOf]; omega
      | false =>
        go_wp2_with (at_builtin
                     refine wpList_append_row _ rfl (.tmp 26) (.tmp 27) 37 rfl B 5 iA (.int .u8 0) 1 Tryz.underlying37 hiA hzA0 hzA1 hzA2 rfl u _ _ rfl (hu.out.own.alloc _) _ (some ⟨wr.heap.size, 0, none⟩) 1 1 [.int .u8 0] rfl rfl (Row.one _ _ _) (by intro u hu; simp at hu; subst hu; rfl) (by unfold maxLen; omega) (by omega) (by simp; omega) ?_
                     intro u3 w3 ho hg hat
                     obtain ⟨hw3, hM4, hF4⟩ := hu.out.grow (bs := boolE false) (below_new _ _) ho (by simp [boolE]) (by rw [List.map_append]; rfl) hg hat
                     have hr3 := hnx.out _ _ ⟨rfl, u3, hw3, hM4, hF4⟩
                     have c3 : w3.cell? ⟨g, 0, none⟩ = some u := by rw [((hu.out.cell.alloc _).grown hg hu.out.off).cell 0]; rfl
                     have f3 := (((hu.out.cell.alloc _).grown hg hu.out.off).frozen 0)
                     obtain ⟨A3, c3', hv3, _⟩ := own_row ho
                     subst hv3
                     clear ho hg hat c2)
        go_roundw
        case rel => exact ⟨k + 1, by omega, by go_num, hr3⟩
        case measure => simp [intOf]; omega
    · obtain rfl : k = zs.length := by omega
      rw [List.take_length] at hu
      go_wp2
      go_end0
      exact ⟨rfl, u, hu, hM, hF⟩

/-- The blocks of an address are new ones. -/
def NewAt (w w' : World) (A : Option Addr) : Prop := ∀ a, A = some a → w.heap.size ≤ a.block ∧ a.block < w'.heap.size

set_option maxRecDepth 100000 in
set_option maxHeartbeats 400000 in
theorem clonec_any (w : World) (A : Option Addr) (c : Nat) (l : List UInt8) (hl : Bytes w w.heap.size A l) (hlen : l.length ≤ 100000000000) :
    Calls Tryz.prog 76 #[.slice A l.length c] w fun e w' => ∃ A' c', e = .returned (.slice A' l.length c') ∧ Bytes w' w'.heap.size A' l ∧ Below w.heap.size w w' ∧ NewAt w w' A' ∧ l.length ≤ c' := by
  obtain ⟨iA, hiA, hzA0, hzA1, hzA2⟩ := info_parts Tryz.infoByte
  have hnil := fun (w : World) (a : Option Addr) (n c : Nat) => Lib.run_eql_slice_nil (P := Tryz.prog) w 37 5 a n c 0 0 Tryz.underlying37
  rcases A with _ | a
  · have hn : l = [] := by
      rcases l with _ | ⟨b, r⟩
      · rfl
      · obtain ⟨_, _, h, _⟩ := hl (by simp); cases h
    subst hn
    go_enter Tryz.func76, Tryz.ntmps76
    go_wp2
    go_ret
    exact ⟨none, 0, rfl, Row.nil_ _ _ _, Below.refl _ _, (fun a h => by cases h), Nat.le_refl _⟩
  · have hl := Lib.hid hl
    go_enter Tryz.func76, Tryz.ntmps76
    go_wp2_with (at_builtin
                 refine wpList_append_row _ rfl (.tmp 5) (.tmp 6) 37 rfl w.heap.size 5 iA (.int .u8 0) 1 Tryz.underlying37 hiA hzA0 hzA1 hzA2 rfl (.slice (some ⟨w.heap.size, 0, none⟩) 0 0) 0 [] rfl (World.ownsRow_made w #[] 0 (Nat.le_refl _) (by simp) rfl) w.heap.size (some a) l.length c (l.map byteV) rfl (by simp) (Row.below hl.out (below_new _ _)) (by intro u hu; obtain ⟨x, _, rfl⟩ := List.mem_map.1 hu; rfl) (by unfold maxLen; omega) (by omega) (by simp) ?_
                 intro u3 w3 ho hg hat
                 have hb3 : Below w.heap.size w w3 := (below_new w _).trans ((Writes.of_grown hg (List.mem_singleton_self _)).below (by simp) (fun k hk => by simp [Value.ownBlock] at hk; omega))
                 rw [Nat.zero_add, List.nil_append] at ho
                 obtain ⟨A3, c3, hv3, hr3, _, hc3⟩ := own_row ho
                 have hnew : NewAt w w3 A3 := fun a h => by
                   subst h
                   rw [hv3] at ho
                   exact ho.lt a.block rfl
                 subst hv3
                 clear ho hg hat)
    go_ret
    exact ⟨A3, c3, rfl, hr3, hb3, hnew, hc3⟩

set_option maxRecDepth 100000 in
set_option maxHeartbeats 400000 in
theorem bytes_any (w : World) (B g : Nat) (t : TypeId) (v : Value) (l : List UInt8) (hw : Wrt w B g t v l) (hlen : l.length ≤ 100000000000) :
    Calls Tryz.prog 54 #[.pointer (some ⟨g, 0, none⟩)] w fun e w' => ∃ A' c', e = .returned (.slice A' l.length c') ∧ Bytes w' w'.heap.size A' l ∧ Below w.heap.size w w' ∧ NewAt w w' A' ∧ l.length ≤ c' := by
  obtain ⟨A, c, rfl, hr, _, _⟩ := own_row hw.own
  have c2 : w.cell? ⟨g, 0, none⟩ = some (.slice A l.length c) := by rw [hw.cell.cell 0]; rfl
  have hr := Lib.hid hr
  clear hw
  go_enter Tryz.func54, Tryz.ntmps54
  go_wp2_with fail
  refine (clonec_any _ A c l hr.out hlen).mono ?_
  rintro e w' ⟨A', c', rfl, hb, hB, hN, hc⟩
  go_wp2
  go_ret
  exact ⟨A', c', rfl, hb, hB, hN, hc⟩

set_option maxRecDepth 100000 in
set_option maxHeartbeats 400000 in
theorem newWriter_any (w : World) :
    Calls Tryz.prog 51 #[] w fun e w' => e = .returned (.pointer (some ⟨w.heap.size, 0, none⟩)) ∧ w' = w.alloc (.cells #[.slice none 0 0] 118) := by
  go_enter Tryz.func51, Tryz.ntmps51
  go_wp2
  go_ret
  exact ⟨rfl, rfl⟩
theorem newWriter_wrt (w : World) : Wrt (w.alloc (.cells #[.slice none 0 0] 118)) w.heap.size w.heap.size 118 (.slice none 0 0) [] :=
  ⟨Holds.new _ _ _, World.ownsRow_nil _ _ _ _, Nat.le_refl _, by decide⟩

/-- A reader at block g: what is left (nothing is said of it behind a failure), whether a call has failed. -/
def Rdr (w : World) (g : Nat) (st : Option (List UInt8)) : Prop :=
  ∃ A n c, Holds w g 149 #[.slice A n c, .bool st.isNone] ∧ n ≤ 100000000000 ∧ ∀ l, st = some l → l.length = n ∧ n ≤ c ∧ Bytes w w.heap.size A l ∧ (∀ a, A = some a → a.block < g)

set_option maxRecDepth 100000 in
set_option maxHeartbeats 400000 in
theorem newReader_any (w : World) (A : Option Addr) (c : Nat) (l : List UInt8) (hl : Bytes w w.heap.size A l) (hlen : l.length ≤ 100000000000) :
    Calls Tryz.prog 47 #[.slice A l.length c] w fun e w' => ∃ g, e = .returned (.pointer (some ⟨g, 0, none⟩)) ∧ w.heap.size ≤ g ∧ Rdr w' g (some l) ∧ Below w.heap.size w w' := by
  go_enter Tryz.func47, Tryz.ntmps47
  go_wp2_with fail
  refine (clonec_any _ A c l hl hlen).mono ?_
  rintro e w' ⟨A', c', rfl, hb, hB, hN, hc⟩
  have hb := Lib.hid hb
  have hN := Lib.hid hN
  go_wp2
  go_ret
  refine ⟨_, rfl, hB.size, ⟨A', l.length, c', Holds.new _ _ _, hlen, ?_⟩, hB.trans ((below_new w' _).mono hB.size)⟩
  rintro l' ⟨⟩
  refine ⟨rfl, hc, hb.out.up (below_new _ _), fun a e => (hN.out a e).2⟩

end Go.Proofs.YtelglbblgkhcmaaGreat
