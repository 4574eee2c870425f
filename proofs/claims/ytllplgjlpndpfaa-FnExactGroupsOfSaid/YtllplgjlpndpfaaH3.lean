/- Slices that a law holds: marked, held; what a call made as a slice of numbers. (The contracts below the head are printed by genh.py.) -/
import Derived.Test.YtllplgjlpndpfaaG9
import Derived.Maps.AppendAt
import Derived.OwnWalk
set_option linter.unusedVariables false
namespace Go.Proofs.Ytllplgjlpndpfaa
open Go.RowKit

section
variable {w w' : World} {base : Nat} {e : TypeId} {v : Value} {cs : List Value}
theorem Own.sl {k : IntKind} {xs : List Int} (h : Own w base e v (xs.map (Value.int k))) : ∃ A c, v = .slice A xs.length c ∧ Sl k w A xs := by
  rcases h.form with ⟨rfl, hn⟩ | ⟨g, c, rfl, _, _, hr, _, hm, _⟩
  · have : xs = [] := by simpa using hn
    subst this
    exact ⟨none, 0, rfl, ⟨by simp, fun hp => by simp at hp⟩⟩
  · rw [List.length_map] at hm ⊢
    exact ⟨_, c, rfl, ⟨hm, fun _ => ⟨g, 0, rfl, hr⟩⟩⟩
theorem Blk.own {b : Nat} (h : Blk w b cs e) (hb : base ≤ b) (hm : cs.length ≤ 9223372036854775807) : Own w base e (.slice (Option.some ⟨b, 0, none⟩) cs.length cs.length) cs :=
  And.intro (by simp) (Or.inr ⟨b, cs.length, cs.toArray, rfl, hb, h, Nat.le_refl _, by simp only [maxLen]; omega, by simp, by simp⟩)
theorem Own.addr {A : Option Addr} {n c : Nat} (h : Own w base e (.slice A n c) cs) (hp : 0 < cs.length) : ∃ g, A = some ⟨g, 0, none⟩ := by
  rcases h.form with ⟨_, rfl⟩ | ⟨g, c, hv, _⟩
  · simp at hp
  · simp only [Value.slice.injEq] at hv; exact ⟨g, hv.1⟩
theorem Own.cellAt {g n c : Nat} (h : Own w base e (.slice (some ⟨g, 0, none⟩) n c) cs) (j : Nat) (hj : j < cs.length) : w.cell? ⟨g, j, none⟩ = cs[j]? := by
  rcases h.form with ⟨hv, _⟩ | ⟨g', c', hv, _, _, hr, _⟩
  · simp at hv
  · simp only [Value.slice.injEq, Option.some.injEq, Addr.mk.injEq, and_true] at hv
    obtain ⟨rfl, _⟩ := hv
    have := hr j cs[j] (List.getElem?_eq_getElem hj)
    rw [Nat.zero_add] at this
    rw [this, List.getElem?_eq_getElem hj]
theorem Own.someAt {g n c : Nat} (h : Own w base e (.slice (some ⟨g, 0, none⟩) n c) cs) (j : Nat) (hj : j < cs.length) : ∃ u, w.cell? ⟨g, j, none⟩ = some u := by
  rw [h.cellAt j hj, List.getElem?_eq_getElem hj]; exact ⟨_, rfl⟩
theorem Own.frozenAt {g n c : Nat} (h : Own w base e (.slice (some ⟨g, 0, none⟩) n c) cs) (j : Nat) : w.frozen? ⟨g, j, none⟩ = false := by
  rcases h.form with ⟨hv, _⟩ | ⟨g', c', hv, _, _, _, hf, _⟩
  · simp at hv
  · simp only [Value.slice.injEq, Option.some.injEq, Addr.mk.injEq, and_true] at hv
    obtain ⟨rfl, _⟩ := hv
    exact hf j
theorem wrap_i64 (n : Int) (h0 : 0 ≤ n) (h1 : n ≤ 2147483647) : IntKind.wrap .i64 n = n := by
  simp [IntKind.wrap, IntKind.bits, IntKind.signed]; omega
/-- What a slice's own turning leaves: all below it. -/
theorem bl_grown {w0 : World} {B : Nat} (hb : Below B w0 w) (hB : B ≤ w.heap.size) (h : Own w base e v cs) (hg : w.grownBy w' v.ownBlock) (hbase : B ≤ base) : Below B w0 w' :=
  hb.grown hg hB (fun k hk => Nat.le_trans hbase (h.ge k hk))
/-- Another slice stays, of which the first lies below the second's begin. -/
theorem Own.kept2 {b2 : Nat} {e2 : TypeId} {u : Value} {ds : List Value} (h : Own w base e v cs) (hlt : ∀ k, v.ownBlock = some k → k < b2) (h2 : Own w b2 e2 u ds) (hg : w.grownBy w' u.ownBlock) : Own w' base e v cs := by
  refine h.grown hg ?_
  cases hv : v.ownBlock with
  | none => exact .inl rfl
  | some k =>
    refine .inr fun e' => ?_
    have := h2.ge k e'.symm
    have := hlt k hv
    omega
end

def marks (kd : IntKind) (k : Int) (n : Nat) : List Int := (List.range n).map fun (i : Nat) => kd.wrap (k + (i : Int))
def marked (kd : IntKind) (k : Int) (xs : List Int) (j : Nat) : List Int := (List.range xs.length).map fun i => if i < j then kd.wrap (k + (i : Int)) else nth xs i
theorem marks_length (kd : IntKind) (k : Int) (n : Nat) : (marks kd k n).length = n := by simp [marks]
theorem marked_length (kd : IntKind) (k : Int) (xs : List Int) (j : Nat) : (marked kd k xs j).length = xs.length := by simp [marked]
theorem marks_nth (kd : IntKind) (k : Int) (n j : Nat) (h : j < n) : nth (marks kd k n) j = kd.wrap (k + (j : Int)) := by unfold marks; rw [nth_map_range _ _ _ h]
theorem marked_zero (kd : IntKind) (k : Int) (xs : List Int) : marked kd k xs 0 = xs := by
  conv => rhs; rw [← range_nth xs _ rfl]
  apply List.map_congr_left
  intro i _
  rw [if_neg (by omega)]
theorem marked_succ (kd : IntKind) (k : Int) (xs : List Int) (j : Nat) : (marked kd k xs j).set j (kd.wrap (k + (j : Int))) = marked kd k xs (j + 1) := by
  apply List.ext_getElem
  · simp [marked]
  · intro i h1 h2
    simp only [List.getElem_set, marked, List.getElem_map, List.getElem_range]
    by_cases h : j = i
    · subst h; simp
    · rw [if_neg h]
      by_cases h3 : i < j
      · rw [if_pos h3, if_pos (by omega)]
      · rw [if_neg h3, if_neg (by omega)]
theorem marked_full (kd : IntKind) (k : Int) (xs : List Int) (j : Nat) (h : xs.length = j) : marked kd k xs j = marks kd k j := by
  subst h
  apply List.map_congr_left
  intro i hi
  rw [if_pos (List.mem_range.1 hi)]

set_option maxHeartbeats 400000 in
theorem toMeaning_any (xs : List Int) (A : Option Addr) (c : Nat) (w : World) (h : Sl .i8 w A xs) (hn : xs.length ≤ 1048576) :
    Calls Try.prog 18 #[.slice A xs.length c] w fun e w' => e = .returned (.slice (some ⟨w.heap.size, 0, none⟩) xs.length xs.length) ∧ Blk w' w.heap.size (i8s xs) 62 ∧ Below w.heap.size w w' := by
  obtain ⟨zs, hzs⟩ : ∃ zs : List Value, List.replicate xs.length (Value.int .i8 0) = zs := ⟨_, rfl⟩
  have hmk := make_of (P := Try.prog) 29 62 (.int .i8 0) 1 Try.underlying29 info_i8 rfl (by omega) xs.length (by omega)
  rw [hzs] at hmk
  have h0 : Blk (w.alloc (.cells zs.toArray 62)) w.heap.size (i8s (part (nth xs) xs.length 0)) 62 := by
    rw [part_zero, ← i8s_replicate, hzs]; exact Blk.new _ _ _
  have b0 := bl_new (Below.refl _ w) (.cells zs.toArray 62)
  clear hzs
  generalize hm : xs.length = n at *
  have HM := As.mk hm
  clear hm
  go_enter Try.func18, Try.ntmps18
  go_wp2
  generalize w.alloc (.cells zs.toArray 62) = W at *
  clear hmk
  go_loopw [4] (fun i wr => ∃ k : Nat, k ≤ n ∧ i = .int .i64 k ∧ Blk wr w.heap.size (i8s (part (nth xs) n k)) 62 ∧ Below w.heap.size w wr) (fun i _ => n - (intOf i).toNat)
  case atStart => exact ⟨0, by omega, rfl, h0, b0⟩
  case round =>
    obtain ⟨k, hk, rfl, h1, hb⟩ := hrel
    by_cases hlt : k < n
    · have hlt' : (k : Int) < (n : Int) := by omega
      obtain ⟨b, o, rfl, hr⟩ := h.2 (by rw [HM.out]; omega)
      have c0 : wr.cell? ⟨b, o + k, none⟩ = some (.int .i8 (nth xs k)) := by
        have h0 := hr k _ (i8s_get xs k (by rw [HM.out]; omega))
        rw [hb.cell (World.block_lt_of_cell? w _ h0)]; exact h0
      obtain ⟨v2, c2⟩ := h1.some k (by rw [i8s_length, part_length]; exact hlt)
      have f2 := h1.frozen k
      go_wp2
      go_roundw
      case rel => exact ⟨k + 1, by omega, by go_num, by have := h1.set k (.int .i8 (nth xs k)); rw [i8s_set, part_set] at this; exact this, hb.setCell (by simp) _⟩
      case measure => simp [intOf]; omega
    · obtain rfl : k = n := by omega
      rw [part_full, range_nth xs k HM.out] at h1
      go_wp2
      go_ret
      exact ⟨rfl, h1, hb⟩
set_option maxHeartbeats 400000 in
theorem eqMeaning_any (xs ys : List Int) (A A' : Option Addr) (c c' : Nat) (w : World) (h1 : Sl .i8 w A xs) (h2 : Sl .i8 w A' ys) :
    Calls Try.prog 20 #[.slice A xs.length c, .slice A' ys.length c'] w fun e w' => e = .returned (.bool (decide (xs = ys))) ∧ Below w.heap.size w w' := by
  have hbig := h1.1
  have hbig2 := h2.1
  by_cases hl : xs.length = ys.length
  · have HL := As.mk hl
    generalize hn : ys.length = n at *
    have hne : ((n : Int) != (n : Int)) = false := by simp
    rw [hl] at hbig ⊢
    have HN := As.mk hn
    clear hl hn
    go_enter Try.func20, Try.ntmps20
    go_wp2
    go_loopw [5] (fun i wr => ∃ k q : Nat, k ≤ n ∧ i = .int .i64 k ∧ wr = w.drewN q ∧ As (∀ j, j < k → nth xs j = nth ys j)) (fun i _ => n - (intOf i).toNat)
    case atStart => exact ⟨0, 0, by omega, rfl, rfl, ⟨fun j hj => by omega⟩⟩
    case round =>
      obtain ⟨k, q, hk, rfl, rfl, H⟩ := hrel
      by_cases hlt : k < n
      · have hlt' : (k : Int) < (n : Int) := by omega
        obtain ⟨b, o, rfl, hr⟩ := h1.2 (by rw [HL.out]; omega)
        obtain ⟨b', o', rfl, hr'⟩ := h2.2 (by rw [HN.out]; omega)
        have c0 : w.cell? ⟨b, o + k, none⟩ = some (.int .i8 (nth xs k)) := hr k _ (i8s_get xs k (by rw [HL.out]; omega))
        have c1 : w.cell? ⟨b', o' + k, none⟩ = some (.int .i8 (nth ys k)) := hr' k _ (i8s_get ys k (by rw [HN.out]; omega))
        go_wp2
        go_quiet (fail)
        go_wp2
        · have ht : (nth xs k != nth ys k) = true := by assumption
          go_ret
          exact ⟨ret_b (nth_ne ht).symm, bl_drewN (bl_drewN (Below.refl _ _) _) _⟩
        · have ht : (nth xs k != nth ys k) = false := by assumption
          go_roundw
          case rel => exact ⟨k + 1, _, by omega, by go_num, rfl, ⟨all_succ H.out (by simpa using ht)⟩⟩
          case measure => simp [intOf]; omega
      · obtain rfl : k = n := by omega
        go_wp2
        go_ret
        exact ⟨ret_b (by symm; rw [decide_eq_true_eq]; exact nth_ext xs ys (by rw [HL.out, HN.out]) (by rw [HL.out]; exact H.out)), bl_drewN (Below.refl _ _) _⟩
  · have hne : (((xs.length : Nat) : Int) != ((ys.length : Nat) : Int)) = true := by rw [bne_iff_ne]; omega
    have hd : decide (xs = ys) = false := by rw [decide_eq_false_iff_not]; rintro rfl; exact hl rfl
    rw [hd]
    clear hl hd
    go_enter Try.func20, Try.ntmps20
    go_wp2
    go_ret
    exact ⟨rfl, Below.refl _ _⟩
set_option maxHeartbeats 400000 in
theorem EqualM_any (xs ys : List Int) (A A' : Option Addr) (c c' : Nat) (w : World) (h1 : Sl .i8 w A xs) (h2 : Sl .i8 w A' ys) :
    Calls Try.prog 57 #[.slice A xs.length c, .slice A' ys.length c'] w fun e w' => e = .returned (.bool (decide (xs = ys))) ∧ Below w.heap.size w w' := by
  have hbig := h1.1
  have hbig2 := h2.1
  by_cases hl : xs.length = ys.length
  · have HL := As.mk hl
    generalize hn : ys.length = n at *
    have hne : ((n : Int) != (n : Int)) = false := by simp
    rw [hl] at hbig ⊢
    have HN := As.mk hn
    clear hl hn
    go_enter Try.func57, Try.ntmps57
    go_wp2
    go_loopw [13] (fun i wr => ∃ k q : Nat, k ≤ n ∧ i = .int .i64 k ∧ wr = w.drewN q ∧ As (∀ j, j < k → nth xs j = nth ys j)) (fun i _ => n - (intOf i).toNat)
    case atStart => exact ⟨0, 0, by omega, rfl, rfl, ⟨fun j hj => by omega⟩⟩
    case round =>
      obtain ⟨k, q, hk, rfl, rfl, H⟩ := hrel
      by_cases hlt : k < n
      · have hlt' : (k : Int) < (n : Int) := by omega
        obtain ⟨b, o, rfl, hr⟩ := h1.2 (by rw [HL.out]; omega)
        obtain ⟨b', o', rfl, hr'⟩ := h2.2 (by rw [HN.out]; omega)
        have c0 : w.cell? ⟨b, o + k, none⟩ = some (.int .i8 (nth xs k)) := hr k _ (i8s_get xs k (by rw [HL.out]; omega))
        have c1 : w.cell? ⟨b', o' + k, none⟩ = some (.int .i8 (nth ys k)) := hr' k _ (i8s_get ys k (by rw [HN.out]; omega))
        go_wp2
        go_quiet (fail)
        go_wp2
        · have ht : (nth xs k != nth ys k) = true := by assumption
          go_ret
          exact ⟨ret_b (nth_ne ht).symm, bl_drewN (bl_drewN (Below.refl _ _) _) _⟩
        · have ht : (nth xs k != nth ys k) = false := by assumption
          go_roundw
          case rel => exact ⟨k + 1, _, by omega, by go_num, rfl, ⟨all_succ H.out (by simpa using ht)⟩⟩
          case measure => simp [intOf]; omega
      · obtain rfl : k = n := by omega
        go_wp2
        go_ret
        exact ⟨ret_b (by symm; rw [decide_eq_true_eq]; exact nth_ext xs ys (by rw [HL.out, HN.out]) (by rw [HL.out]; exact H.out)), bl_drewN (Below.refl _ _) _⟩
  · have hne : (((xs.length : Nat) : Int) != ((ys.length : Nat) : Int)) = true := by rw [bne_iff_ne]; omega
    have hd : decide (xs = ys) = false := by rw [decide_eq_false_iff_not]; rintro rfl; exact hl rfl
    rw [hd]
    clear hl hd
    go_enter Try.func57, Try.ntmps57
    go_wp2
    go_ret
    exact ⟨rfl, Below.refl _ _⟩
set_option maxHeartbeats 400000 in
theorem markHoist_any (xs : List Int) (base : Nat) (v : Value) (k0 : Int) (hk1 : 0 ≤ k0) (hk0 : k0 + (xs.length : Int) ≤ 2147483647) (w : World) (h : Own w base 62 v (i8s xs)) :
    Calls Try.prog 23 #[v, .int .i64 k0] w fun e w' => e = .returned (.int .i64 (k0 + (xs.length : Int))) ∧ Own w' base 62 v (i8s (marks .i8 k0 xs.length)) ∧ w.grownBy w' v.ownBlock := by
  obtain ⟨A, c, rfl, S⟩ := h.sl
  have hbig := S.1
  have HX := As.mk (marked_zero .i8 k0 xs)
  have HL := As.mk hk0
  generalize hm : xs.length = n at *
  have HM := As.mk hm
  go_enter Try.func23, Try.ntmps23
  go_wp2
  go_loopw [5, 1] (fun i kk wr => ∃ j : Nat, j ≤ n ∧ i = .int .i64 j ∧ kk = .int .i64 (k0 + (j : Int)) ∧ Own wr base 62 (.slice A n c) (i8s (marked .i8 k0 xs j)) ∧ w.grownBy wr (Value.slice A n c).ownBlock) (fun i kk _ => n - (intOf i).toNat)
  case atStart => exact ⟨0, by omega, rfl, by simp, by rw [HX.out]; exact h, World.grownBy.refl _ _⟩
  case round =>
    obtain ⟨j, hj, rfl, rfl, hO, hg⟩ := hrel
    by_cases hlt : j < n
    · have hlt' : (j : Int) < (n : Int) := by omega
      obtain ⟨g, rfl⟩ := hO.addr (by rw [i8s_length, marked_length, HM.out]; omega)
      have hO' := hO
      have hs := (World.ownsRow.stored (by have := hO; unfold Own at this; rwa [i8s_length, marked_length, HM.out] at this) j (.int .i8 (IntKind.wrap .i8 (k0 + (j : Int))))).2
      have f0 := hO.frozenAt j
      obtain ⟨u0, c1⟩ := hO.someAt j (by rw [i8s_length, marked_length, HM.out]; exact hlt)
      go_wp2
      go_roundw
      case rel => exact ⟨j + 1, by omega, by go_num, by go_num, by have := hO.set (by rw [i8s_length, marked_length, HM.out]) j (.int .i8 (IntKind.wrap .i8 (k0 + (j : Int)))); rw [i8s_set, marked_succ] at this; exact this, hg.trans hs⟩
      case measure => simp [intOf]; omega
    · obtain rfl : j = n := by omega
      go_wp2
      go_ret
      exact ⟨rfl, by rw [marked_full .i8 k0 xs j HM.out] at hO; exact hO, hg⟩
set_option maxHeartbeats 400000 in
theorem heldHoist_any (n : Nat) (A : Option Addr) (c : Nat) (k0 : Int) (hk1 : 0 ≤ k0) (hk0 : k0 + (n : Int) ≤ 2147483647) (w : World) (h : Sl .i8 w A (marks .i8 k0 n)) :
    Calls Try.prog 24 #[.slice A n c, .int .i64 k0] w fun e w' => e = .returned (.int .i64 (k0 + (n : Int))) ∧ Below w.heap.size w w' := by
  have HL := As.mk hk0
  have HM := As.mk (marks_length .i8 k0 n)
  go_enter Try.func24, Try.ntmps24
  go_wp2
  go_loopw [5, 1] (fun i kk wr => ∃ j q : Nat, j ≤ n ∧ i = .int .i64 j ∧ kk = .int .i64 (k0 + (j : Int)) ∧ wr = w.drewN q) (fun i kk _ => n - (intOf i).toNat)
  case atStart => exact ⟨0, 0, by omega, rfl, by simp, rfl⟩
  case round =>
    obtain ⟨j, q, hj, rfl, rfl, rfl⟩ := hrel
    by_cases hlt : j < n
    · have hlt' : (j : Int) < (n : Int) := by omega
      obtain ⟨b, o, rfl, hr⟩ := h.2 (by rw [HM.out]; omega)
      have c0 : w.cell? ⟨b, o + j, none⟩ = some (.int .i8 (IntKind.wrap .i8 (k0 + (j : Int)))) := by
        have := hr j _ (i8s_get _ j (by rw [HM.out]; exact hlt)); rwa [marks_nth _ _ _ _ hlt] at this
      go_wp2
      go_roundw
      case rel => exact ⟨j + 1, _, by omega, by go_num, by go_num, rfl⟩
      case measure => simp [intOf]; omega
    · obtain rfl : j = n := by omega
      go_wp2
      go_ret
      exact ⟨rfl, bl_drewN (Below.refl _ _) _⟩
set_option maxHeartbeats 400000 in
theorem markMeaning_any (xs : List Int) (base : Nat) (v : Value) (k0 : Int) (hk1 : 0 ≤ k0) (hk0 : k0 + (xs.length : Int) ≤ 2147483647) (w : World) (h : Own w base 62 v (i8s xs)) :
    Calls Try.prog 29 #[v, .int .i64 k0] w fun e w' => e = .returned (.int .i64 (k0 + (xs.length : Int))) ∧ Own w' base 62 v (i8s (marks .i8 k0 xs.length)) ∧ w.grownBy w' v.ownBlock := by
  obtain ⟨A, c, rfl, S⟩ := h.sl
  have hbig := S.1
  have HX := As.mk (marked_zero .i8 k0 xs)
  have HL := As.mk hk0
  generalize hm : xs.length = n at *
  have HM := As.mk hm
  go_enter Try.func29, Try.ntmps29
  go_wp2
  go_loopw [5, 1] (fun i kk wr => ∃ j : Nat, j ≤ n ∧ i = .int .i64 j ∧ kk = .int .i64 (k0 + (j : Int)) ∧ Own wr base 62 (.slice A n c) (i8s (marked .i8 k0 xs j)) ∧ w.grownBy wr (Value.slice A n c).ownBlock) (fun i kk _ => n - (intOf i).toNat)
  case atStart => exact ⟨0, by omega, rfl, by simp, by rw [HX.out]; exact h, World.grownBy.refl _ _⟩
  case round =>
    obtain ⟨j, hj, rfl, rfl, hO, hg⟩ := hrel
    by_cases hlt : j < n
    · have hlt' : (j : Int) < (n : Int) := by omega
      obtain ⟨g, rfl⟩ := hO.addr (by rw [i8s_length, marked_length, HM.out]; omega)
      have hO' := hO
      have hs := (World.ownsRow.stored (by have := hO; unfold Own at this; rwa [i8s_length, marked_length, HM.out] at this) j (.int .i8 (IntKind.wrap .i8 (k0 + (j : Int))))).2
      have f0 := hO.frozenAt j
      obtain ⟨u0, c1⟩ := hO.someAt j (by rw [i8s_length, marked_length, HM.out]; exact hlt)
      go_wp2
      go_roundw
      case rel => exact ⟨j + 1, by omega, by go_num, by go_num, by have := hO.set (by rw [i8s_length, marked_length, HM.out]) j (.int .i8 (IntKind.wrap .i8 (k0 + (j : Int)))); rw [i8s_set, marked_succ] at this; exact this, hg.trans hs⟩
      case measure => simp [intOf]; omega
    · obtain rfl : j = n := by omega
      go_wp2
      go_ret
      exact ⟨rfl, by rw [marked_full .i8 k0 xs j HM.out] at hO; exact hO, hg⟩
set_option maxHeartbeats 400000 in
theorem heldMeaning_any (n : Nat) (A : Option Addr) (c : Nat) (k0 : Int) (hk1 : 0 ≤ k0) (hk0 : k0 + (n : Int) ≤ 2147483647) (w : World) (h : Sl .i8 w A (marks .i8 k0 n)) :
    Calls Try.prog 30 #[.slice A n c, .int .i64 k0] w fun e w' => e = .returned (.int .i64 (k0 + (n : Int))) ∧ Below w.heap.size w w' := by
  have HL := As.mk hk0
  have HM := As.mk (marks_length .i8 k0 n)
  go_enter Try.func30, Try.ntmps30
  go_wp2
  go_loopw [5, 1] (fun i kk wr => ∃ j q : Nat, j ≤ n ∧ i = .int .i64 j ∧ kk = .int .i64 (k0 + (j : Int)) ∧ wr = w.drewN q) (fun i kk _ => n - (intOf i).toNat)
  case atStart => exact ⟨0, 0, by omega, rfl, by simp, rfl⟩
  case round =>
    obtain ⟨j, q, hj, rfl, rfl, rfl⟩ := hrel
    by_cases hlt : j < n
    · have hlt' : (j : Int) < (n : Int) := by omega
      obtain ⟨b, o, rfl, hr⟩ := h.2 (by rw [HM.out]; omega)
      have c0 : w.cell? ⟨b, o + j, none⟩ = some (.int .i8 (IntKind.wrap .i8 (k0 + (j : Int)))) := by
        have := hr j _ (i8s_get _ j (by rw [HM.out]; exact hlt)); rwa [marks_nth _ _ _ _ hlt] at this
      go_wp2
      go_roundw
      case rel => exact ⟨j + 1, _, by omega, by go_num, by go_num, rfl⟩
      case measure => simp [intOf]; omega
    · obtain rfl : j = n := by omega
      go_wp2
      go_ret
      exact ⟨rfl, bl_drewN (Below.refl _ _) _⟩
set_option maxHeartbeats 400000 in
theorem markInt64S_any (xs : List Int) (base : Nat) (v : Value) (k0 : Int) (hk1 : 0 ≤ k0) (hk0 : k0 + (xs.length : Int) ≤ 2147483647) (w : World) (h : Own w base 2 v (i64s xs)) :
    Calls Try.prog 43 #[v, .int .i64 k0] w fun e w' => e = .returned (.int .i64 (k0 + (xs.length : Int))) ∧ Own w' base 2 v (i64s (marks .i64 k0 xs.length)) ∧ w.grownBy w' v.ownBlock := by
  obtain ⟨A, c, rfl, S⟩ := h.sl
  have hbig := S.1
  have HX := As.mk (marked_zero .i64 k0 xs)
  have HL := As.mk hk0
  generalize hm : xs.length = n at *
  have HM := As.mk hm
  go_enter Try.func43, Try.ntmps43
  go_wp2
  go_loopw [5, 1] (fun i kk wr => ∃ j : Nat, j ≤ n ∧ i = .int .i64 j ∧ kk = .int .i64 (k0 + (j : Int)) ∧ Own wr base 2 (.slice A n c) (i64s (marked .i64 k0 xs j)) ∧ w.grownBy wr (Value.slice A n c).ownBlock) (fun i kk _ => n - (intOf i).toNat)
  case atStart => exact ⟨0, by omega, rfl, by simp, by rw [HX.out]; exact h, World.grownBy.refl _ _⟩
  case round =>
    obtain ⟨j, hj, rfl, rfl, hO, hg⟩ := hrel
    by_cases hlt : j < n
    · have hlt' : (j : Int) < (n : Int) := by omega
      obtain ⟨g, rfl⟩ := hO.addr (by rw [i64s_length, marked_length, HM.out]; omega)
      have hO' := hO
      have hs := (World.ownsRow.stored (by have := hO; unfold Own at this; rwa [i64s_length, marked_length, HM.out] at this) j (.int .i64 (IntKind.wrap .i64 (k0 + (j : Int))))).2
      have f0 := hO.frozenAt j
      obtain ⟨u0, c1⟩ := hO.someAt j (by rw [i64s_length, marked_length, HM.out]; exact hlt)
      have hw : As (IntKind.wrap .i64 (k0 + (j : Int)) = k0 + (j : Int)) := ⟨wrap_i64 _ (by omega) (by omega)⟩
      rw [hw.out] at hs
      go_wp2
      go_roundw
      case rel => exact ⟨j + 1, by omega, by go_num, by go_num, by have := hO.set (by rw [i64s_length, marked_length, HM.out]) j (.int .i64 (IntKind.wrap .i64 (k0 + (j : Int)))); rw [i64s_set, marked_succ] at this; rw [hw.out] at this; exact this, hg.trans hs⟩
      case measure => simp [intOf]; omega
    · obtain rfl : j = n := by omega
      go_wp2
      go_ret
      exact ⟨rfl, by rw [marked_full .i64 k0 xs j HM.out] at hO; exact hO, hg⟩
set_option maxHeartbeats 400000 in
theorem heldInt64S_any (n : Nat) (A : Option Addr) (c : Nat) (k0 : Int) (hk1 : 0 ≤ k0) (hk0 : k0 + (n : Int) ≤ 2147483647) (w : World) (h : Sl .i64 w A (marks .i64 k0 n)) :
    Calls Try.prog 44 #[.slice A n c, .int .i64 k0] w fun e w' => e = .returned (.int .i64 (k0 + (n : Int))) ∧ Below w.heap.size w w' := by
  have HL := As.mk hk0
  have HM := As.mk (marks_length .i64 k0 n)
  go_enter Try.func44, Try.ntmps44
  go_wp2
  go_loopw [5, 1] (fun i kk wr => ∃ j q : Nat, j ≤ n ∧ i = .int .i64 j ∧ kk = .int .i64 (k0 + (j : Int)) ∧ wr = w.drewN q) (fun i kk _ => n - (intOf i).toNat)
  case atStart => exact ⟨0, 0, by omega, rfl, by simp, rfl⟩
  case round =>
    obtain ⟨j, q, hj, rfl, rfl, rfl⟩ := hrel
    by_cases hlt : j < n
    · have hlt' : (j : Int) < (n : Int) := by omega
      obtain ⟨b, o, rfl, hr⟩ := h.2 (by rw [HM.out]; omega)
      have c0 : w.cell? ⟨b, o + j, none⟩ = some (.int .i64 (IntKind.wrap .i64 (k0 + (j : Int)))) := by
        have := hr j _ (i64s_get _ j (by rw [HM.out]; exact hlt)); rwa [marks_nth _ _ _ _ hlt] at this
      rw [wrap_i64 _ (by omega) (by omega)] at c0
      go_wp2
      go_roundw
      case rel => exact ⟨j + 1, _, by omega, by go_num, by go_num, rfl⟩
      case measure => simp [intOf]; omega
    · obtain rfl : j = n := by omega
      go_wp2
      go_ret
      exact ⟨rfl, bl_drewN (Below.refl _ _) _⟩
end Go.Proofs.Ytllplgjlpndpfaa
