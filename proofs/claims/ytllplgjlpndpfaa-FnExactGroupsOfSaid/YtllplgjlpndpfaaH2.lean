/- Contracts: laws.toHoist; SameHoist: both sides. -/
import Derived.Test.YtllplgjlpndpfaaH1
import Derived.Deep.OwnRows
set_option linter.unusedVariables false
namespace Go.Proofs.Ytllplgjlpndpfaa
open Go.RowKit

theorem info_i8 : (Try.prog.info? 62).map (fun i => (i.zero, i.size, i.bytes)) = some (some (.int .i8 0), 1, 1) := by kernel_rfl
theorem made_list (v : Value) (n : Nat) : (madeCells #[v] n).toList = List.replicate n v := by
  apply List.ext_getElem
  · simp [madeCells]
  · intro i h1 h2
    simp [madeCells, Nat.mod_one]
/-- 'make([]T, n)' as the walk meets it. -/
theorem make_of {P : Program} (t e : TypeId) (z : Value) (bytes : Nat) (ht : P.underlying t = some (.slice e)) (hinfo : (P.info? e).map (fun i => (i.zero, i.size, i.bytes)) = some (some z, 1, bytes)) (hz : z.cells = #[z]) (hb0 : 0 < bytes)
    (n : Nat) (hn : n * bytes ≤ 281474976710656) (W : World) : (Instr.makeSlice t (.int .i64 (n : Int)) (.int .i64 (n : Int))).run P W = .ok (.slice (some ⟨W.heap.size, 0, none⟩) n n) (W.alloc (.cells (List.replicate n z).toArray e)) := by
  have hm : n ≤ 281474976710656 := Nat.le_trans (Nat.le_mul_of_pos_right _ hb0) hn
  rw [run_make_row' t e z bytes ht hinfo hz .i64 .i64 n (by rw [Nat.mul_comm]; exact hn) (by omega) W, ← made_list z n]
theorem i8s_replicate (n : Nat) : List.replicate n (Value.int .i8 0) = i8s (List.replicate n 0) := by simp [i8s]
theorem Blk.sl {k : IntKind} {w : World} {b : Nat} {xs : List Int} {t : TypeId} (h : Blk w b (xs.map (Value.int k)) t) (hl : xs.length ≤ 9223372036854775807) : Sl k w (Option.some ⟨b, 0, none⟩) xs :=
  And.intro hl fun _ => ⟨b, 0, rfl, h.range⟩

set_option maxHeartbeats 400000 in
theorem toHoist_any (xs : List Int) (A : Option Addr) (c : Nat) (w : World) (h : Sl .i8 w A xs) (hn : xs.length ≤ 1048576) :
    Calls Try.prog 14 #[.slice A xs.length c] w fun e w' => e = .returned (.slice (some ⟨w.heap.size, 0, none⟩) xs.length xs.length) ∧ Blk w' w.heap.size (i8s xs) 62 ∧ Below w.heap.size w w' := by
  obtain ⟨zs, hzs⟩ : ∃ zs : List Value, List.replicate xs.length (Value.int .i8 0) = zs := ⟨_, rfl⟩
  have hmk := make_of (P := Try.prog) 24 62 (.int .i8 0) 1 Try.underlying24 info_i8 rfl (by omega) xs.length (by omega)
  rw [hzs] at hmk
  have h0 : Blk (w.alloc (.cells zs.toArray 62)) w.heap.size (i8s (part (nth xs) xs.length 0)) 62 := by
    rw [part_zero, ← i8s_replicate, hzs]; exact Blk.new _ _ _
  have b0 := bl_new (Below.refl _ w) (.cells zs.toArray 62)
  clear hzs
  generalize hm : xs.length = n at *
  have HM := As.mk hm
  clear hm
  go_enter Try.func14, Try.ntmps14
  go_wp2
  generalize w.alloc (.cells zs.toArray 62) = W at *
  clear hmk
  go_loopw [4] (fun i wr => ∃ k : Nat, k ≤ n ∧ i = .int .i64 k ∧ Blk wr w.heap.size (i8s (part (nth xs) n k)) 62 ∧ Below w.heap.size w wr) (fun i _ => n - (intOf i).toNat)
  case atStart => exact ⟨0, by omega, rfl, h0, b0⟩
  case round =>
    obtain ⟨k, hk, rfl, h1, hb⟩ := hrel
    by_cases hlt : k < n
    · have hlt' : (k : Int) < (n : Int) := by omega
      obtain ⟨b, o, rfl, hr⟩ := h.2 (by rw [HM.out]; omega)
      have c0 : wr.cell? ⟨b, o + k, none⟩ = some (.int .i8 (nth xs k)) := by
        have h0 := hr k _ (i8s_get xs k (by rw [HM.out]; omega))
        rw [hb.cell (World.block_lt_of_cell? w _ h0)]; exact h0
      obtain ⟨v2, c2⟩ := h1.some k (by rw [i8s_length, part_length]; exact hlt)
      have f2 := h1.frozen k
      go_wp2
      go_roundw
      case rel => exact ⟨k + 1, by omega, by go_num, by have := h1.set k (.int .i8 (nth xs k)); rw [i8s_set, part_set] at this; exact this, hb.setCell (by simp) _⟩
      case measure => simp [intOf]; omega
    · obtain rfl : k = n := by omega
      rw [part_full, range_nth xs k HM.out] at h1
      go_wp2
      go_ret
      exact ⟨rfl, h1, hb⟩

end Go.Proofs.Ytllplgjlpndpfaa
