/-
  The walks of package code's writer: Text, Bool, Bytes; slices.Clone; NewWriter.
-/
import Derived.Test.YtelglbblgkhcmaaGreatCodeB
import Derived.Test.YtelglbblgkhcmaaGreatOwnStr
namespace Go.Proofs.YtelglbblgkhcmaaGreat
open Go.RowKit

def txtE (s : ByteArray) : List UInt8 := numE s.size ++ s.data.toList
theorem txtE_len (M : Nat) (s : ByteArray) (h : s.size ≤ M) (hM : M ≤ 9223372036854775807) : (txtE s).length ≤ 10 + M := by
  unfold txtE
  have := numE_len10 s.size (by omega)
  simp only [List.length_append, Array.length_toList]
  have h2 : s.data.size = s.size := rfl
  omega

set_option maxRecDepth 100000 in
set_option maxHeartbeats 2000000 in
theorem text_any (w : World) (B g : Nat) (t : TypeId) (v : Value) (l : List UInt8) (A : Option Addr) (c M : Nat) (zs : List ByteArray) (hw : Wrt w B g t v l) (hB : B ≤ w.heap.size)
    (hz : ∀ z ∈ zs, z.size ≤ M) (hM2 : M ≤ 10000000000) (hA : Strs w w.heap.size A zs) (hoff : zs ≠ [] → blk A ∉ [some g, v.ownBlock]) (hlen : l.length + (10 + M) * zs.length ≤ 99999999990) :
    Calls Tryz.prog 52 #[.pointer (some ⟨g, 0, none⟩), .slice A zs.length c] w (Wrote w B g t v (l ++ zs.flatMap txtE)) := by
  obtain ⟨iA, hiA, hzA0, hzA1, hzA2⟩ := info_parts Tryz.infoByte
  have hll := Lib.hid (flat_len' txtE (10 + M) zs fun z h => txtE_len M z (hz z h) (by omega))
  have hzl : zs.length ≤ 99999999990 := by
    have : zs.length ≤ (10 + M) * zs.length := Nat.le_mul_of_pos_left _ (by omega)
    omega
  go_enter Tryz.func52, Tryz.ntmps52
  go_wp2
  have hA := Lib.hid (show Row w w.heap.size A (zs.map Value.string) from hA)
  have hoff := Lib.hid hoff
  have hz := Lib.hid hz
  have hlen := Lib.hid hlen
  go_loopw [8] (fun i wr => ∃ k : Nat, k ≤ zs.length ∧ i = .int .i64 k ∧ AtW txtE w B g t v l zs k wr) (fun i _ => zs.length - (intOf i).toNat)
  case atStart => exact ⟨0, by omega, rfl, v, by simpa using hw, Writes.refl _ _, Fresh.refl _ _⟩
  case round =>
    obtain ⟨k, hk, rfl, u, hu, hM, hF⟩ := hrel
    by_cases hlt : k < zs.length
    · obtain ⟨b, off, rfl, hb, hcell0⟩ := (hM.row hA.out (Nat.le_refl _) (fun _ => hoff.out (by rintro rfl; simp at hlt))).at_ (k := k) (by simpa using hlt)
      have hzk := hz.out zs[k] (List.getElem_mem hlt)
      have hcell : wr.cell? ⟨b, off + k, none⟩ = some (.string zs[k]) := by rw [hcell0]; simp
      clear hcell0
      have hsz := hM.size
      have hnx : Hid (∀ e w', Wrote wr B g t u (l ++ (zs.take k).flatMap txtE ++ txtE zs[k]) e w' → AtW txtE w B g t v l zs (k + 1) w') := Lib.hid fun e w' h => AtW.step hlt rfl hM hF h
      have hcl : (l ++ (zs.take k).flatMap txtE).length + (10 + M) ≤ 99999999990 := by
        have h1 := hll.out k
        have h2 := hlen.out
        have h3 : (10 + M) * (k + 1) ≤ (10 + M) * zs.length := Nat.mul_le_mul_left _ hlt
        rw [Nat.mul_succ] at h3
        simp only [List.length_append]
        omega
      generalize l ++ (zs.take k).flatMap txtE = cur at *
      generalize hzd : zs[k] = zk at *
      clear hzd
      have hu := Lib.hid hu
      go_wp2_with fail
      (with_reducible refine (num_one _ B g t u cur _ hu.out ?b1 ?b2 ?b3 ?b4).mono ?_)
      case b1 => omega
      case b2 => omega
      case b3 => omega
      case b4 => omega
      rintro e w2 ⟨rfl, u2, hu2, hM3, hF3⟩
      have hM3 := Lib.hid hM3
      have hF3 := Lib.hid hF3
      have hs2 := hM3.out.size
      have hnl := numE_len10 (zk.size : Int).toNat (by omega)
      have hcl2 : (cur ++ numE (zk.size : Int).toNat).length ≤ 99999999990 := by simp only [List.length_append]; omega
      rw [Int.toNat_natCast] at *
      generalize hc2 : cur ++ numE zk.size = cur2 at *
      have hc2 := Lib.hid hc2
      have c2 : w2.cell? ⟨g, 0, none⟩ = some u2 := by rw [hu2.cell.cell 0]; rfl
      have hu2 := Lib.hid hu2
      go_wp2_with (at_builtin
                   refine wpList_append_text _ rfl (.tmp 22) (.tmp 23) 37 9 rfl B 5 iA Tryz.underlying37 Tryz.underlying9 hiA hzA0 hzA1 hzA2 u2 _ _ rfl hu2.out.own zk rfl (by unfold maxLen; omega) (by omega) (by omega) ?_
                   intro u3 w3 ho hg hat
                   obtain ⟨hw3, hM4, hF4⟩ := hu2.out.grow (bs := zk.data.toList) (Below.refl _ _) ho (by simp) (by rw [List.map_append]) hg hat
                   have hr3 := hnx.out _ _ ⟨rfl, u3, by rw [txtE, ← List.append_assoc, hc2.out]; exact hw3, writes_then hM3.out hF3.out hM4, hF3.out.trans hF4 hs2⟩
                   have c3 : w3.cell? ⟨g, 0, none⟩ = some u2 := by rw [(hu2.out.cell.grown hg hu2.out.off).cell 0]; rfl
                   have f3 := (hu2.out.cell.grown hg hu2.out.off).frozen 0
                   obtain ⟨A3, c3', hv3, _⟩ := own_row ho
                   subst hv3
                   clear ho hg hat c2)
      go_roundw
      case rel => exact ⟨k + 1, by omega, by go_num, hr3⟩
      case measure => simp [intOf]; omega
    · obtain rfl : k = zs.length := by omega
      rw [List.take_length] at hu
      go_wp2
      go_end0
      exact ⟨rfl, u, hu, hM, hF⟩

end Go.Proofs.YtelglbblgkhcmaaGreat
