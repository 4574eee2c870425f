/- Contracts: laws.szFlagS, laws.toFlagS. -/
import Derived.Test.YtjppoejkfpeicaaG19
import Derived.Test.YtjppoejkfpeicaaF10
import Derived.Test.YtjppoejkfpeicaaT1
import Derived.Deep.OwnRows
set_option linter.unusedVariables false
set_option linter.unusedSimpArgs false
namespace Go.Proofs.Ytjppoejkfpeicaa
open Go.RowKit

section
variable {P : Program} {ops : Array Oper} {rest : List Oper} {op : Oper} {a : Act} {w : World} {Q : Exit → Act → World → Prop}
/-- A whole array into the midst of a block. -/
theorem store_mid (hgd : Region.wanted op (yielded ops a.tmps) = true) (ty : TypeId) (x y : Operand) (ho : op.op = .store ty x y) (b o : Nat) (hx : a.eval x = .pointer (some ⟨b, o, none⟩)) {ds : List Value} (hy : a.eval y = .agg ds.toArray)
    (ht : w.there b o ds.length) (hi : (P.info? ty).map (·.size) = some ds.length) (h1 : ∀ v ∈ ds, v.oneCell' = true)
    (h : wpList P ops Q rest (a.put op.dst undef) (w.setCells b o ds)) : wpList P ops Q (op :: rest) a w :=
  BigFrame.wpList_want hgd fun _ hK => wp_store_mid ty x y ho b o ds.toArray hx hy (by simpa using ht) (by rw [hi]; simp) (all_oneCell_toArray h1) (hK _ _ h)
end
theorem info_flag3 : (Try.prog.info? 38).map (fun i => (i.zero, i.size, i.bytes)) = some (some (fl zero24), 24, 24) := by kernel_rfl
theorem flat_zero : ∀ n : Nat, (List.replicate n zero24).flatMap u8s = List.replicate (n * 24) (Value.int .u8 0)
  | 0 => rfl
  | n + 1 => by
    rw [List.replicate_succ, List.flatMap_cons, flat_zero n]
    show List.replicate 24 (Value.int .u8 0) ++ _ = _
    rw [List.replicate_append_replicate]; congr 1; omega
theorem made_zero (m : Nat) : madeCells (fl zero24).cells m = (List.replicate m (Value.int .u8 0)).toArray := by
  have g : ∀ (n j : Nat), j < n → (List.replicate n (Value.int .u8 0)).toArray[j]! = Value.int .u8 0 := by
    intro n j hj
    rw [getElem!_pos _ j (by simpa using hj)]
    simp
  have h : ∀ j, j < 24 → (fl zero24).cells[j]! = Value.int .u8 0 := fun j hj => g 24 j hj
  apply Array.ext
  · simp [madeCells]
  · intro i h1 h2
    simp only [madeCells, Array.getElem_map, Array.getElem_range]
    have : (fl zero24).cells.size = 24 := rfl
    rw [this, h _ (Nat.mod_lt _ (by omega))]
    simp
theorem make_fl (n : Nat) (hn : n ≤ 1048576) (W : World) : (Instr.makeSlice 27 (.int .i64 (n : Int)) (.int .i64 (n : Int))).run Try.prog W = .ok (.slice (some ⟨W.heap.size, 0, none⟩) n n) (W.alloc (.cells ((List.replicate n zero24).flatMap u8s).toArray 38)) := by
  obtain ⟨i, hi, hz⟩ := Option.map_eq_some_iff.1 info_flag3
  simp only [Prod.mk.injEq] at hz
  obtain ⟨h1, h2, h3⟩ := hz
  have := run_make (P := Try.prog) W 27 38 i (fl zero24) Try.underlying27 hi h1 .i64 .i64 n n (by omega) (Int.le_refl _) (by rw [h3]; omega) (by omega)
  rw [this, h2, flat_zero, made_zero]
  simp

/-- The first k flags, and none. -/
def pF (fs : List (List Int)) (n k : Nat) : List (List Int) := (List.range n).map fun i => if i < k then nthF fs i else zero24
theorem pF_length (fs : List (List Int)) (n k : Nat) : (pF fs n k).length = n := by simp [pF]
theorem pF_zero (fs : List (List Int)) (n : Nat) : pF fs n 0 = List.replicate n zero24 := by
  apply List.ext_getElem <;> simp [pF]
theorem pF_step (fs : List (List Int)) (n k : Nat) : (pF fs n k).set k (nthF fs k) = pF fs n (k + 1) := by
  apply List.ext_getElem
  · simp [pF]
  · intro i h1 h2
    simp only [List.getElem_set, pF, List.getElem_map, List.getElem_range]
    by_cases h : k = i
    · subst h; simp
    · rw [if_neg h]
      by_cases h3 : i < k
      · rw [if_pos h3, if_pos (by omega)]
      · rw [if_neg h3, if_neg (by omega)]
theorem pF_full (fs : List (List Int)) : pF fs fs.length fs.length = fs := by
  apply List.ext_getElem
  · simp [pF]
  · intro i h1 h2
    simp only [pF, List.getElem_map, List.getElem_range]
    rw [if_pos h2]
    simp [nthF, List.getElem?_eq_getElem h2]
theorem pF_24 {fs : List (List Int)} {n k : Nat} (h : ∀ i, i < k → (nthF fs i).length = 24) : ∀ x ∈ pF fs n k, (u8s x).length = 24 := by
  intro x hx
  obtain ⟨i, hi, rfl⟩ := List.mem_map.1 hx
  rw [u8s_length]
  split
  · exact h i (by assumption)
  · exact zero24_length
theorem info_len' {f : List Int} (h : f.length = 24) : (Try.prog.info? 37).map (·.size) = some (u8s f).length := by rw [u8s_length, h]; exact info_fl'
theorem there_sub {w : World} {b N o m : Nat} (h : w.there b 0 N) (hm : o + m ≤ N) : w.there b o m := fun j hj => by
  have := h (o + j) (by omega)
  rw [Nat.zero_add] at this; exact this

theorem szFlagS_any (A : Option Addr) (n c : Nat) (w : World) (hn : n ≤ 9223372036854775807) :
    Calls Try.prog 7 #[.slice A n c, .int .i64 1048576] w fun e w' => e = .returned (.int .i64 (if n ≤ 1048576 then 1048576 - (n : Int) else -1)) ∧ w = w' := by
  by_cases h : n ≤ 1048576
  · have h' : ¬ (1048576 - (n : Int) < 0) := by omega
    rw [if_pos h]
    go_enter Try.func7, Try.ntmps7
    go_wp2
    go_ret
    exact ⟨rfl, rfl⟩
  · have h' : (1048576 - (n : Int) < 0) := by omega
    rw [if_neg h]
    go_enter Try.func7, Try.ntmps7
    go_wp2
    go_ret
    exact ⟨rfl, rfl⟩

set_option maxRecDepth 20000 in
set_option maxHeartbeats 1000000 in
theorem toFlagS_any (fs : List (List Int)) (A : Option Addr) (c : Nat) (w : World) (hs : SlF w A fs) (hn : fs.length ≤ 1048576) :
    Calls Try.prog 9 #[.slice A fs.length c] w fun e w' => e = .returned (.slice (some ⟨w.heap.size, 0, none⟩) fs.length fs.length) ∧ Blk w' w.heap.size (fs.flatMap u8s) 38 ∧ Below w.heap.size w w' := by
  have hF := pF_full fs
  obtain ⟨zs, hzs⟩ : ∃ zs : List Value, (List.replicate fs.length zero24).flatMap u8s = zs := ⟨_, rfl⟩
  have hmk := fun W => make_fl fs.length hn W
  rw [hzs] at hmk
  have h0 : Blk (w.alloc (.cells zs.toArray 38)) w.heap.size ((pF fs fs.length 0).flatMap u8s) 38 := by
    rw [pF_zero, hzs]; exact Blk.new _ _ _
  have b0 := bl_new (Below.refl _ w) (.cells zs.toArray 38)
  clear hzs
  generalize hm : fs.length = n at *
  have HM := As.mk hm
  clear hm
  go_enter Try.func9, Try.ntmps9
  go_wp2
  generalize w.alloc (.cells zs.toArray 38) = W at *
  clear hmk
  go_loopw [4] (fun i wr => ∃ k : Nat, k ≤ n ∧ i = .int .i64 k ∧ Blk wr w.heap.size ((pF fs n k).flatMap u8s) 38 ∧ Below w.heap.size w wr) (fun i _ => n - (intOf i).toNat)
  case atStart => exact ⟨0, by omega, rfl, h0, b0⟩
  case round =>
    obtain ⟨k, hk, rfl, h1, hb⟩ := hrel
    clear h0 b0
    by_cases hlt : k < n
    · have hlt' : (k : Int) < (n : Int) := by omega
      have hkm : k < fs.length := by rw [HM.out]; exact hlt
      obtain ⟨b, o, rfl, hr⟩ := (hs.kept hb).2.2.2 (by omega)
      have R := hr k _ (nthF_get? fs k hkm)
      have hk24 := hs.len k hkm
      have hi := info_len' hk24
      have h24 := pF_24 (n := n) (k := k) (fun i h => hs.len i (by rw [HM.out]; omega))
      have hst := As.mk (flat_set u8s 24 (nthF fs k) (by rw [u8s_length]; exact hk24) (pF fs n k) h24 k (by rw [pF_length]; exact hlt))
      have hlen : ((pF fs n k).flatMap u8s).length = n * 24 := by rw [flat_length u8s 24 _ h24, pF_length]
      have hfit : k * 24 + 24 ≤ n * 24 := by omega
      have key := fun W => toFlag_any (nthF fs k) hk24 W
      have hps := As.mk (pF_step fs n k)
      generalize hf : nthF fs k = f at *
      have hu := u8s_length f
      have hone := u8s_one f
      clear hkm hr
      unfold fl at key
      go_wp2_with (refine wpList_load_mid rfl 37 _ rfl _ _ rfl _ _ R Try.underlying37 rfl hi ?_)
      refine (key _).mono ?_; rintro e w1 ⟨rfl, hb1⟩
      have h2 := h1.kept hb1
      have hb2 := bl_call hb hb1
      have ht := there_sub (o := k * 24) (m := 24) (N := n * 24) (by have := h2.there; rw [hlen] at this; exact this) hfit
      have h3 := Blk.setCells (w := w1) (u8s f) (k * 24) _ _ h2 (by rw [hlen, hu, hk24]; exact hfit)
      rw [hu, hk24, hst.out, hps.out] at h3
      have hb3 := bl_setCells hb2 (g := w.heap.size) (Nat.le_refl _) (k * 24) (u8s f)
      have ht' : w1.there w.heap.size (k * 24) (u8s f).length := by rw [hu, hk24]; exact ht
      have hi2 : (Try.prog.info? 38).map (·.size) = some (u8s f).length := by rw [hu, hk24]; exact info_fl
      go_wp2_with (refine store_mid rfl 38 _ _ rfl w.heap.size (k * 24) rfl (ds := u8s f) rfl ht' hi2 hone ?_)
      go_roundw
      case rel => exact ⟨k + 1, by omega, by go_num, h3, hb3⟩
      case measure => simp [intOf]; omega
    · obtain rfl : k = n := by omega
      rw [hF] at h1
      go_wp2
      go_ret
      exact ⟨rfl, h1, hb⟩
end Go.Proofs.Ytjppoejkfpeicaa
