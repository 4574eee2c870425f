/- Contracts: the distance of two flags of a set, as impl.nearest asks for it. -/
import Derived.Test.YtjppoejkfpeicaaG18
import Derived.Test.YtjppoejkfpeicaaG20
set_option linter.unusedVariables false
set_option linter.unusedSimpArgs false
namespace Go.Proofs.Ytjppoejkfpeicaa
open Go.RowKit

/-- In how many blocks two flags of a set differ from afar. -/
def farP (fs : List (List Int)) (i k : Nat) : Int := farD (nthF fs i) (nthF fs k)
theorem keepP {w W W' : World} {a : Addr} {v : Value} {b1 o1 b2 o2 : Nat} {c1 c2 : List Value} (h : Below w.heap.size w W ∧ W.cell? a = some v ∧ W.rangeAt b1 o1 c1 ∧ W.rangeAt b2 o2 c2) (hb : Below W.heap.size W W') :
    Below w.heap.size w W' ∧ W'.cell? a = some v ∧ W'.rangeAt b1 o1 c1 ∧ W'.rangeAt b2 o2 c2 := ⟨bl_call h.1 hb, (hb.cell (World.block_lt_of_cell? W _ h.2.1)).trans h.2.1, range_kept h.2.2.1 hb, range_kept h.2.2.2 hb⟩

set_option maxRecDepth 100000 in
set_option maxHeartbeats 1000000 in
theorem AreDistinct1_any (fs : List (List Int)) (hv : vfs fs = true) (h40 : fs.length ≤ 40) (A : Option Addr) (c B i k : Nat) (hik : i < k) (hk : k < fs.length) (w : World) (hs : SlF w A fs) (hB : w.cell? ⟨B, 0, none⟩ = some (.slice A fs.length c)) :
    Calls Try.prog 76 #[.int .i64 (i : Int), .int .i64 (k : Int), .pointer (some ⟨B, 0, none⟩)] w fun e w' => e = .returned (.int .i64 (farP fs i k)) ∧ Below w.heap.size w w' := by
  obtain ⟨b, o, rfl, hr⟩ := hs.2.2.2 (by omega)
  have hi : i < fs.length := by omega
  have li := hs.len i hi
  have lk := hs.len k hk
  have hi1 := info_len li
  have hi2 := info_len lk
  have S0 : Below w.heap.size w w ∧ w.cell? ⟨B, 0, none⟩ = some (.slice (some ⟨b, o, none⟩) fs.length c) ∧ w.rangeAt b (o + i * 24) (u8s (nthF fs i)) ∧ w.rangeAt b (o + k * 24) (u8s (nthF fs k)) :=
    ⟨Below.refl _ _, hB, hr i _ (nthF_get? fs i hi), hr k _ (nthF_get? fs k hk)⟩
  have key := fun W => afar_any (nthF fs i) (nthF fs k) li lk (hs.bytes i hi) (hs.bytes k hk) (vfs_at hv i hi) (vfs_at hv k hk) W
  have hi' : (i : Int) < (fs.length : Int) := by omega
  have hk' : (k : Int) < (fs.length : Int) := by omega
  unfold farP farD
  generalize diffs (blurL (nthF fs i)) (blurL (nthF fs k)) 6 = dd at *
  clear hr hs hB
  generalize nthF fs i = fi at *
  generalize nthF fs k = fk at *
  generalize fs.length = n at *
  go_enter Try.func76, Try.ntmps76
  go_wp2_with (fail)
  unfold fl at *
  refine wp_region_held_drew (S := (fun W => Below w.heap.size w W ∧ W.cell? ⟨B, 0, none⟩ = some (.slice (some ⟨b, o, none⟩) n c) ∧ W.rangeAt b (o + i * 24) (u8s fi) ∧ W.rangeAt b (o + k * 24) (u8s fk))) (by kernel_rfl) ⟨S0.1.drew, S0.2.1, S0.2.2.1, S0.2.2.2⟩ (fun hHeld => ?_)
  (refine hTake 0 6 (v := .slice (some ⟨b, o, none⟩) n c) rfl rfl (by kernel_rfl) (by kernel_rfl) (by kernel_rfl) (fun _ _ _ h => h) (Or.inl ⟨by rfl, fun W h => by (have h1 := h.2.1; clear h; go_simp)⟩) hHeld ?_; simp only [List.set_cons_zero, List.set_cons_succ])
  (refine hTake 4 10 (v := .slice (some ⟨b, o, none⟩) n c) rfl rfl (by kernel_rfl) (by kernel_rfl) (by kernel_rfl) (fun _ _ _ h => h) (Or.inl ⟨by rfl, fun W h => by (have h1 := h.2.1; clear h; go_simp)⟩) hHeld ?_; simp only [List.set_cons_zero, List.set_cons_succ])
  (refine hTake 1 7 (v := .int .i64 (i : Int)) rfl rfl (by kernel_rfl) (by kernel_rfl) (by kernel_rfl) (fun _ _ _ h => h) (Or.inl ⟨by rfl, fun W _ => rfl⟩) hHeld ?_; simp only [List.set_cons_zero, List.set_cons_succ])
  (refine hTake 5 11 (v := .int .i64 (k : Int)) rfl rfl (by kernel_rfl) (by kernel_rfl) (by kernel_rfl) (fun _ _ _ h => h) (Or.inl ⟨by rfl, fun W _ => rfl⟩) hHeld ?_; simp only [List.set_cons_zero, List.set_cons_succ])
  (refine hTake 2 8 (v := .pointer (some ⟨b, o + i * 24, none⟩)) rfl rfl (by kernel_rfl) (by kernel_rfl) (by kernel_rfl) (fun _ _ _ h => h) (Or.inl ⟨by rfl, fun W _ => by go_simp⟩) hHeld ?_; simp only [List.set_cons_zero, List.set_cons_succ])
  (refine hTake 6 12 (v := .pointer (some ⟨b, o + k * 24, none⟩)) rfl rfl (by kernel_rfl) (by kernel_rfl) (by kernel_rfl) (fun _ _ _ h => h) (Or.inl ⟨by rfl, fun W _ => by go_simp⟩) hHeld ?_; simp only [List.set_cons_zero, List.set_cons_succ])
  (refine hTake 3 9 rfl rfl (by kernel_rfl) (by kernel_rfl) (by kernel_rfl) (fun _ _ _ h => h) (yieldsIf_load_mid (by rfl) _ _ rfl _ _ rfl (u8s fi) _ (fun W h => h.2.2.1) Try.underlying38 rfl hi1) hHeld ?_; simp only [List.set_cons_zero, List.set_cons_succ])
  (refine hTake 7 13 rfl rfl (by kernel_rfl) (by kernel_rfl) (by kernel_rfl) (fun _ _ _ h => h) (yieldsIf_load_mid (by rfl) _ _ rfl _ _ rfl (u8s fk) _ (fun W h => h.2.2.2) Try.underlying38 rfl hi2) hHeld ?_; simp only [List.set_cons_zero, List.set_cons_succ])
  refine hCall 8 14 48 rfl rfl (by kernel_rfl) (args := #[.agg (u8s fi).toArray, .agg (u8s fk).toArray]) (by rfl) (by go_simp) (.int .i64 dd) (key _) (fun wq hq => ⟨keepP hHeld hq, ?_⟩)
  simp only [List.set_cons_zero, List.set_cons_succ]
  replace hHeld := keepP hHeld hq
  (refine hTake 9 5 (v := .int .i64 dd) rfl rfl (by kernel_rfl) (by kernel_rfl) (by kernel_rfl) (fun _ _ _ h => h) (Or.inl ⟨by rfl, fun W _ => rfl⟩) hHeld ?_; simp only [List.set_cons_zero, List.set_cons_succ])
  refine wpAnyH_done (by kernel_rfl) ?_ _
  go_wp2_with (fail)
  go_ret
  exact ⟨rfl, hHeld.1⟩

set_option maxRecDepth 100000 in
set_option maxHeartbeats 1000000 in
theorem NearestPair1_any (fs : List (List Int)) (hv : vfs fs = true) (h40 : fs.length ≤ 40) (A : Option Addr) (c B i k : Nat) (hik : i < k) (hk : k < fs.length) (w : World) (hs : SlF w A fs) (hB : w.cell? ⟨B, 0, none⟩ = some (.slice A fs.length c)) :
    Calls Try.prog 78 #[.int .i64 (i : Int), .int .i64 (k : Int), .pointer (some ⟨B, 0, none⟩)] w fun e w' => e = .returned (.int .i64 (farP fs i k)) ∧ Below w.heap.size w w' := by
  obtain ⟨b, o, rfl, hr⟩ := hs.2.2.2 (by omega)
  have hi : i < fs.length := by omega
  have li := hs.len i hi
  have lk := hs.len k hk
  have hi1 := info_len li
  have hi2 := info_len lk
  have S0 : Below w.heap.size w w ∧ w.cell? ⟨B, 0, none⟩ = some (.slice (some ⟨b, o, none⟩) fs.length c) ∧ w.rangeAt b (o + i * 24) (u8s (nthF fs i)) ∧ w.rangeAt b (o + k * 24) (u8s (nthF fs k)) :=
    ⟨Below.refl _ _, hB, hr i _ (nthF_get? fs i hi), hr k _ (nthF_get? fs k hk)⟩
  have key := fun W => afar_any (nthF fs i) (nthF fs k) li lk (hs.bytes i hi) (hs.bytes k hk) (vfs_at hv i hi) (vfs_at hv k hk) W
  have hi' : (i : Int) < (fs.length : Int) := by omega
  have hk' : (k : Int) < (fs.length : Int) := by omega
  unfold farP farD
  generalize diffs (blurL (nthF fs i)) (blurL (nthF fs k)) 6 = dd at *
  clear hr hs hB
  generalize nthF fs i = fi at *
  generalize nthF fs k = fk at *
  generalize fs.length = n at *
  go_enter Try.func78, Try.ntmps78
  go_wp2_with (fail)
  unfold fl at *
  refine wp_region_held_drew (S := (fun W => Below w.heap.size w W ∧ W.cell? ⟨B, 0, none⟩ = some (.slice (some ⟨b, o, none⟩) n c) ∧ W.rangeAt b (o + i * 24) (u8s fi) ∧ W.rangeAt b (o + k * 24) (u8s fk))) (by kernel_rfl) ⟨S0.1.drew, S0.2.1, S0.2.2.1, S0.2.2.2⟩ (fun hHeld => ?_)
  (refine hTake 0 6 (v := .slice (some ⟨b, o, none⟩) n c) rfl rfl (by kernel_rfl) (by kernel_rfl) (by kernel_rfl) (fun _ _ _ h => h) (Or.inl ⟨by rfl, fun W h => by (have h1 := h.2.1; clear h; go_simp)⟩) hHeld ?_; simp only [List.set_cons_zero, List.set_cons_succ])
  (refine hTake 4 10 (v := .slice (some ⟨b, o, none⟩) n c) rfl rfl (by kernel_rfl) (by kernel_rfl) (by kernel_rfl) (fun _ _ _ h => h) (Or.inl ⟨by rfl, fun W h => by (have h1 := h.2.1; clear h; go_simp)⟩) hHeld ?_; simp only [List.set_cons_zero, List.set_cons_succ])
  (refine hTake 1 7 (v := .int .i64 (i : Int)) rfl rfl (by kernel_rfl) (by kernel_rfl) (by kernel_rfl) (fun _ _ _ h => h) (Or.inl ⟨by rfl, fun W _ => rfl⟩) hHeld ?_; simp only [List.set_cons_zero, List.set_cons_succ])
  (refine hTake 5 11 (v := .int .i64 (k : Int)) rfl rfl (by kernel_rfl) (by kernel_rfl) (by kernel_rfl) (fun _ _ _ h => h) (Or.inl ⟨by rfl, fun W _ => rfl⟩) hHeld ?_; simp only [List.set_cons_zero, List.set_cons_succ])
  (refine hTake 2 8 (v := .pointer (some ⟨b, o + i * 24, none⟩)) rfl rfl (by kernel_rfl) (by kernel_rfl) (by kernel_rfl) (fun _ _ _ h => h) (Or.inl ⟨by rfl, fun W _ => by go_simp⟩) hHeld ?_; simp only [List.set_cons_zero, List.set_cons_succ])
  (refine hTake 6 12 (v := .pointer (some ⟨b, o + k * 24, none⟩)) rfl rfl (by kernel_rfl) (by kernel_rfl) (by kernel_rfl) (fun _ _ _ h => h) (Or.inl ⟨by rfl, fun W _ => by go_simp⟩) hHeld ?_; simp only [List.set_cons_zero, List.set_cons_succ])
  (refine hTake 3 9 rfl rfl (by kernel_rfl) (by kernel_rfl) (by kernel_rfl) (fun _ _ _ h => h) (yieldsIf_load_mid (by rfl) _ _ rfl _ _ rfl (u8s fi) _ (fun W h => h.2.2.1) Try.underlying38 rfl hi1) hHeld ?_; simp only [List.set_cons_zero, List.set_cons_succ])
  (refine hTake 7 13 rfl rfl (by kernel_rfl) (by kernel_rfl) (by kernel_rfl) (fun _ _ _ h => h) (yieldsIf_load_mid (by rfl) _ _ rfl _ _ rfl (u8s fk) _ (fun W h => h.2.2.2) Try.underlying38 rfl hi2) hHeld ?_; simp only [List.set_cons_zero, List.set_cons_succ])
  refine hCall 8 14 48 rfl rfl (by kernel_rfl) (args := #[.agg (u8s fi).toArray, .agg (u8s fk).toArray]) (by rfl) (by go_simp) (.int .i64 dd) (key _) (fun wq hq => ⟨keepP hHeld hq, ?_⟩)
  simp only [List.set_cons_zero, List.set_cons_succ]
  replace hHeld := keepP hHeld hq
  (refine hTake 9 5 (v := .int .i64 dd) rfl rfl (by kernel_rfl) (by kernel_rfl) (by kernel_rfl) (fun _ _ _ h => h) (Or.inl ⟨by rfl, fun W _ => rfl⟩) hHeld ?_; simp only [List.set_cons_zero, List.set_cons_succ])
  refine wpAnyH_done (by kernel_rfl) ?_ _
  go_wp2_with (fail)
  go_ret
  exact ⟨rfl, hHeld.1⟩
end Go.Proofs.Ytjppoejkfpeicaa
