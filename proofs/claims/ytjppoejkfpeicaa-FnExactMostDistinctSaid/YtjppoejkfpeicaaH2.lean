/- Contracts: laws.toHoist; SameHoist: both sides. -/
import Derived.Test.YtjppoejkfpeicaaH1
import Derived.Deep.OwnRows
set_option linter.unusedVariables false
namespace Go.Proofs.Ytjppoejkfpeicaa
open Go.RowKit

theorem made_list (v : Value) (n : Nat) : (madeCells #[v] n).toList = List.replicate n v := by
  apply List.ext_getElem
  · simp [madeCells]
  · intro i h1 h2
    simp [madeCells, Nat.mod_one]
/-- 'make([]T, n)' as the walk meets it. -/
theorem make_of {P : Program} (t e : TypeId) (z : Value) (bytes : Nat) (ht : P.underlying t = some (.slice e)) (hinfo : (P.info? e).map (fun i => (i.zero, i.size, i.bytes)) = some (some z, 1, bytes)) (hz : z.cells = #[z]) (hb0 : 0 < bytes)
    (n : Nat) (hn : n * bytes ≤ 281474976710656) (W : World) : (Instr.makeSlice t (.int .i64 (n : Int)) (.int .i64 (n : Int))).run P W = .ok (.slice (some ⟨W.heap.size, 0, none⟩) n n) (W.alloc (.cells (List.replicate n z).toArray e)) := by
  have hm : n ≤ 281474976710656 := Nat.le_trans (Nat.le_mul_of_pos_right _ hb0) hn
  rw [run_make_row' t e z bytes ht hinfo hz .i64 .i64 n (by rw [Nat.mul_comm]; exact hn) (by omega) W, ← made_list z n]
theorem i8s_replicate (n : Nat) : List.replicate n (Value.int .i8 0) = i8s (List.replicate n 0) := by simp [i8s]
theorem Blk.sl {k : IntKind} {w : World} {b : Nat} {xs : List Int} {t : TypeId} (h : Blk w b (xs.map (Value.int k)) t) (hl : xs.length ≤ 9223372036854775807) : Sl k w (Option.some ⟨b, 0, none⟩) xs :=
  And.intro hl fun _ => ⟨b, 0, rfl, h.range⟩

end Go.Proofs.Ytjppoejkfpeicaa
