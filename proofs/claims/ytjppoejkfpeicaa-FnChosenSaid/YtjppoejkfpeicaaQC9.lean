/- Contracts and plain facts, several texts in one. -/
import Derived.Test.YtjppoejkfpeicaaQC8
import Derived.Test.YtjppoejkfpeicaaQC5
import Derived.Test.YtjppoejkfpeicaaQC3
import Derived.Test.YtjppoejkfpeicaaQC1
import Derived.Test.YtjppoejkfpeicaaQC2
import Derived.Test.YtjppoejkfpeicaaQC7
import Derived.Test.YtjppoejkfpeicaaQC6
/- FnChosen: plain facts of choices; numbers compared and looked for. -/
set_option linter.unusedVariables false
set_option linter.unusedSimpArgs false
namespace Go.Proofs.Ytjppoejkfpeicaa
open Go.RowKit

/-! Choices -/
def chooseN (f : Nat → Nat → Bool) : Nat → List Nat
  | 0 => []
  | k + 1 => if fitsN f (chooseN f k) k then chooseN f k ++ [k] else chooseN f k
theorem chooseK_N (fs : List (List Int)) (n : Int) : ∀ k, chooseK fs n k = ni (chooseN (gF fs n) k)
  | 0 => rfl
  | k + 1 => by
    have ih := chooseK_N fs n k
    show (if fitsB fs (chooseK fs n k) k n then chooseK fs n k ++ [(k : Int)] else chooseK fs n k) = ni (if fitsN (gF fs n) (chooseN (gF fs n) k) k then chooseN (gF fs n) k ++ [k] else chooseN (gF fs n) k)
    rw [ih, fits_eq]
    split
    · rw [ni_snoc]
    · rfl
theorem acc_snoc (f : Nat → Nat → Bool) : ∀ (T S : List Nat) (k : Nat), accN f S (T ++ [k]) = (accN f S T && fitsN f (S ++ T) k)
  | [], S, k => by simp [accN]
  | a :: T, S, k => by
    simp only [List.cons_append, accN]
    rw [acc_snoc f T (S ++ [a]) k, Bool.and_assoc]
    simp
theorem rises_snoc : ∀ {T : List Nat} {lo k n : Nat}, risesN k lo T → lo ≤ k → k < n → risesN n lo (T ++ [k])
  | [], lo, k, n, _, h1, h2 => ⟨h1, h2, trivial⟩
  | a :: T, lo, k, n, ⟨h1, h2, h3⟩, hl, hk => ⟨h1, by omega, rises_snoc h3 (by omega) hk⟩
theorem rises_mono : ∀ {T : List Nat} {lo k n : Nat}, risesN k lo T → k ≤ n → risesN n lo T
  | [], _, _, _, _, _ => trivial
  | a :: T, lo, k, n, ⟨h1, h2, h3⟩, hk => ⟨h1, by omega, rises_mono h3 hk⟩
theorem choose_valid (f : Nat → Nat → Bool) : ∀ k, risesN k 0 (chooseN f k) ∧ accN f [] (chooseN f k) = true
  | 0 => ⟨trivial, rfl⟩
  | k + 1 => by
    obtain ⟨h1, h2⟩ := choose_valid f k
    unfold chooseN
    split
    · rename_i h
      refine ⟨rises_snoc h1 (by omega) (by omega), ?_⟩
      rw [acc_snoc, h2, List.nil_append, h]; rfl
    · exact ⟨rises_mono h1 (by omega), h2⟩
theorem choose_grows (f : Nat → Nat → Bool) (i : Nat) : ∀ n, i ≤ n → ∃ R, chooseN f n = chooseN f i ++ R
  | 0, h => by obtain rfl : i = 0 := by omega
               exact ⟨[], by simp⟩
  | n + 1, h => by
    by_cases e : i = n + 1
    · subst e; exact ⟨[], by simp⟩
    · obtain ⟨R, hR⟩ := choose_grows f i n (by omega)
      have hs : chooseN f (n + 1) = if fitsN f (chooseN f n) n then chooseN f n ++ [n] else chooseN f n := rfl
      rw [hs]
      split
      · exact ⟨R ++ [n], by rw [hR, List.append_assoc]⟩
      · exact ⟨R, hR⟩
/-- A flag that was not chosen is too near to one that was. -/
theorem not_chosen {f : Nat → Nat → Bool} {n i : Nat} (hi : i < n) (h : i ∉ chooseN f n) : ∃ x, x < (chooseN f n).length ∧ f ((chooseN f n).getD x 0) i = false := by
  have hf : fitsN f (chooseN f i) i = false := by
    cases hq : fitsN f (chooseN f i) i
    · rfl
    · exfalso
      obtain ⟨R, hR⟩ := choose_grows f (i + 1) n (by omega)
      apply h
      rw [hR]
      apply List.mem_append_left
      unfold chooseN
      rw [if_pos hq]
      simp
  unfold fitsN at hf
  rw [List.all_eq_false] at hf
  obtain ⟨y, hy, hfy⟩ := hf
  obtain ⟨x, hx, rfl⟩ := List.mem_iff_getElem.1 hy
  obtain ⟨R, hR⟩ := choose_grows f i n (by omega)
  refine ⟨x, by rw [hR, List.length_append]; omega, ?_⟩
  rw [hR, List.getD_eq_getElem?_getD, List.getElem?_append_left hx, List.getElem?_eq_getElem hx]
  simpa using hfy
theorem acc_pairs {f : Nat → Nat → Bool} {X : List Nat} (h : accN f [] X = true) {x y : Nat} (hxy : x < y) (hy : y < X.length) : f (X.getD x 0) (X.getD y 0) = true := by
  rw [accN_iff] at h
  have := h y hy x (by simp; omega)
  have e : (([] : List Nat) ++ X.take y).getD x 0 = X.getD x 0 := by
    rw [List.nil_append, List.getD_eq_getElem?_getD, List.getD_eq_getElem?_getD, List.getElem?_take, if_pos hxy]
  rwa [e] at this
theorem great_valid (f : Nat → Nat → Bool) (n : Nat) : risesN n 0 (loopS f n 0 [] []) ∧ accN f [] (loopS f n 0 [] []) = true := (vld_iff f n _ 0 []).1 (spec_top f n).1
theorem great_longer (f : Nat → Nat → Bool) (n : Nat) : (chooseN f n).length ≤ (loopS f n 0 [] []).length :=
  ((spec_top f n).2 _ ((vld_iff f n _ 0 []).2 (choose_valid f n))).1

/-- The flags that are chosen. -/
def pickF (fs : List (List Int)) (X : List Nat) : List (List Int) := X.map (nthF fs)
theorem pickF_length (fs : List (List Int)) (X : List Nat) : (pickF fs X).length = X.length := by simp [pickF]
theorem pickF_nth (fs : List (List Int)) (X : List Nat) (x : Nat) (hx : x < X.length) : nthF (pickF fs X) x = nthF fs (X.getD x 0) := by
  unfold pickF nthF
  rw [List.getD_eq_getElem?_getD, List.getElem?_map, List.getElem?_eq_getElem hx, List.getD_eq_getElem?_getD, List.getD_eq_getElem?_getD, List.getElem?_eq_getElem hx]
  rfl
theorem vfs_pick {fs : List (List Int)} (hv : vfs fs = true) {X : List Nat} (hX : ∀ x ∈ X, x < fs.length) : vfs (pickF fs X) = true := by
  unfold vfs; rw [List.all_eq_true]
  intro f hf
  obtain ⟨x, hx, rfl⟩ := List.mem_map.1 hf
  exact vfs_at hv x (hX x hx)
theorem ask_zero_of {fs : List (List Int)} {n : Int} (hv : vfs fs = true) (h40 : fs.length ≤ 40) (hn : 0 ≤ n ∧ n ≤ 6) : askC fs n = 0 := by
  have h1 : setC fs = 0 := by unfold setC; rw [if_pos hv, if_neg (by omega)]
  unfold askC
  rw [if_pos h1, if_pos ((inR_iff _ _ _).2 hn)]
/-- Chosen flags are far from each other. -/
theorem dist_pick {fs : List (List Int)} {n : Int} {X : List Nat} (ha : askC (pickF fs X) n = 0) (h : accN (gF fs n) [] X = true) : distB (pickF fs X) n = true := by
  unfold distB
  rw [ha, decide_eq_true rfl, Bool.true_and, apart_iff]
  intro x y hxy hy
  rw [pickF_length] at hy
  have := acc_pairs h hxy hy
  unfold gF at this
  rw [decide_eq_true_eq] at this
  unfold farP at this ⊢
  rw [pickF_nth _ _ _ (by omega), pickF_nth _ _ _ hy]
  exact this
/-- With one more they are not. -/
theorem dist_more {fs : List (List Int)} {n : Int} {i : Nat} (hi : i < fs.length) (h : i ∉ chooseN (gF fs n) fs.length) : distB (pickF fs (chooseN (gF fs n) fs.length) ++ [nthF fs i]) n = false := by
  obtain ⟨x, hx, hf⟩ := not_chosen hi h
  generalize chooseN (gF fs n) fs.length = X at *
  cases hq : distB (pickF fs X ++ [nthF fs i]) n
  · rfl
  · exfalso
    unfold distB at hq
    rw [Bool.and_eq_true, apart_iff] at hq
    have h2 := hq.2 x X.length hx (by simp [pickF_length])
    unfold gF at hf
    rw [decide_eq_false_iff_not] at hf
    apply hf
    unfold farP at h2 ⊢
    have e1 : nthF (pickF fs X ++ [nthF fs i]) x = nthF fs (X.getD x 0) := by
      rw [← pickF_nth fs X x hx]
      show (pickF fs X ++ [nthF fs i]).getD x [] = (pickF fs X).getD x []
      rw [List.getD_eq_getElem?_getD, List.getD_eq_getElem?_getD, List.getElem?_append_left (by rw [pickF_length]; exact hx)]
    have e2 : nthF (pickF fs X ++ [nthF fs i]) X.length = nthF fs i := by
      unfold nthF
      rw [List.getD_eq_getElem?_getD, List.getElem?_append_right (by rw [pickF_length]; omega), pickF_length, Nat.sub_self]
      rfl
    rw [e1, e2] at h2
    exact h2
/-- The nearest pair is the nearest one. -/
theorem near_least {fs : List (List Int)} (hd : ∀ x y, x < y → y < fs.length → 0 ≤ farP fs x y) (h2 : 2 ≤ fs.length) {k i : Nat} (hki : k < i) (hi : i < fs.length) : (allN (farP fs) fs.length none3 fs.length).2.2 ≤ farP fs k i := by
  rcases known_all (farP fs) fs.length hd fs.length (Nat.le_refl _) with ⟨h1, h2', h3⟩ | ⟨h1, h2', x, y, h3, h4⟩
  · exact absurd ⟨hki, hi, .inl (by omega)⟩ (h3 k i)
  · exact h2' k i ⟨hki, hi, .inl (by omega)⟩

/-! Numbers -/
set_option maxHeartbeats 1000000 in
theorem l00Same_same (xs : List Int) (A A' : Option Addr) (c c' : Nat) (w : World) (h1 : Sl .i64 w A xs) (h2 : Sl .i64 w A' xs) :
    Calls Try.prog 74 #[.slice A xs.length c, .slice A' xs.length c'] w fun e w' => e = .returned (.bool true) ∧ Below w.heap.size w w' := by
  have hbig := h1.1
  obtain ⟨n, hn⟩ : ∃ n, xs.length = n := ⟨_, rfl⟩
  have HX := As.mk hn
  rw [hn] at hbig ⊢
  clear hn
  go_enter Try.func74, Try.ntmps74
  go_wp2
  go_loopw [5] (fun i wr => ∃ k : Nat, k ≤ n ∧ i = .int .i64 k ∧ Below w.heap.size w wr) (fun i _ => n - (intOf i).toNat)
  case atStart => exact ⟨0, by omega, rfl, Below.refl _ _⟩
  case round =>
    obtain ⟨k, hk, rfl, hb⟩ := hrel
    by_cases hlt : k < n
    · have hlt' : (k : Int) < (n : Int) := by omega
      obtain ⟨b, o, rfl, hr⟩ := (h1.kept hb).2 (by rw [HX.out]; omega)
      obtain ⟨b', o', rfl, hr'⟩ := (h2.kept hb).2 (by rw [HX.out]; omega)
      have c0 : wr.cell? ⟨b, o + k, none⟩ = some (.int .i64 (nth xs k)) := hr k _ (i64s_get xs k (by rw [HX.out]; exact hlt))
      have c1 : wr.cell? ⟨b', o' + k, none⟩ = some (.int .i64 (nth xs k)) := hr' k _ (i64s_get xs k (by rw [HX.out]; exact hlt))
      clear hr hr'
      generalize nth xs k = x at *
      go_wp2
      go_quiet (fail)
      have hb2 : Below w.heap.size w (wr.drewN nq) := bl_drewN hb nq
      clear c0 c1 hb
      generalize wr.drewN nq = w2 at *
      go_wp2
      go_roundw
      case rel => exact ⟨k + 1, by omega, by go_num, hb2⟩
      case measure => simp [intOf]; omega
    · obtain rfl : k = n := by omega
      go_wp2
      go_ret
      exact ⟨rfl, hb⟩
set_option maxHeartbeats 1000000 in
theorem l00Has64_any (xs : List Int) (y : Int) (A : Option Addr) (c : Nat) (w : World) (h1 : Sl .i64 w A xs) :
    Calls Try.prog 77 #[.slice A xs.length c, .int .i64 y] w fun e w' => e = .returned (.bool (decide (y ∈ xs))) ∧ w = w' := by
  have hbig := h1.1
  obtain ⟨n, hn⟩ : ∃ n, xs.length = n := ⟨_, rfl⟩
  have HX := As.mk hn
  rw [hn] at hbig ⊢
  clear hn
  go_enter Try.func77, Try.ntmps77
  go_wp2
  go_loop [5] (fun i => ∃ k : Nat, k ≤ n ∧ i = .int .i64 k ∧ As (∀ j, j < k → nth xs j ≠ y)) (fun i => n - (intOf i).toNat)
  case atStart => exact ⟨0, by omega, rfl, ⟨fun j hj => by omega⟩⟩
  case round =>
    obtain ⟨k, hk, rfl, HE⟩ := hrel
    by_cases hlt : k < n
    · have hlt' : (k : Int) < (n : Int) := by omega
      obtain ⟨b, o, rfl, hr⟩ := h1.2 (by rw [HX.out]; omega)
      have c0 : w.cell? ⟨b, o + k, none⟩ = some (.int .i64 (nth xs k)) := hr k _ (i64s_get xs k (by rw [HX.out]; exact hlt))
      clear hr
      have hm := As.mk (nth_mem xs k (by rw [HX.out]; exact hlt))
      by_cases he : nth xs k = y
      · have he' : (nth xs k == y) = true := by simp [he]
        have hmem : y ∈ xs := by rw [← he]; exact hm.out
        clear hm
        generalize nth xs k = x at *
        go_wp2
        go_ret
        exact ⟨ret_b (by simp [hmem]), rfl⟩
      · have he' : (nth xs k == y) = false := by simp [he]
        have HE2 := As.mk he
        obtain ⟨x, hx⟩ : ∃ x, nth xs k = x := ⟨_, rfl⟩
        rw [hx] at c0 he'
        clear he hx hm
        go_wp2
        go_round
        case rel => exact ⟨k + 1, by omega, by go_num, ⟨fun j hj => by
          by_cases e : j = k
          · subst e; exact HE2.out
          · exact HE.out j (by omega)⟩⟩
        case measure => simp [intOf]; omega
    · obtain rfl : k = n := by omega
      have hE : ¬ y ∈ xs := fun hy => by
        obtain ⟨j, q1, q2⟩ := List.mem_iff_getElem.1 hy
        rw [nth_get xs j q1] at q2
        exact HE.out j (by rw [← HX.out]; exact q1) q2
      go_wp2
      go_ret
      exact ⟨ret_b (by simp [hE]), rfl⟩
theorem SameNumbers_same (xs : List Int) (A A' : Option Addr) (c c' : Nat) (w : World) (h1 : Sl .i64 w A xs) (h2 : Sl .i64 w A' xs) :
    Calls Try.prog 36 #[.slice A xs.length c, .slice A' xs.length c'] w fun e w' => e = .returned (.bool true) ∧ Below w.heap.size w w' := by
  go_enter Try.func36, Try.ntmps36
  go_wp2_with (fail)
  refine (l00Same_same xs A A' c c' _ h1 h2).mono ?_; rintro e w1 ⟨rfl, hb1⟩
  go_wp2_with (fail)
  go_ret
  exact ⟨rfl, hb1⟩
theorem HasNumber_any (xs : List Int) (y : Int) (A : Option Addr) (c : Nat) (w : World) (h1 : Sl .i64 w A xs) :
    Calls Try.prog 38 #[.slice A xs.length c, .int .i64 y] w fun e w' => e = .returned (.bool (decide (y ∈ xs))) ∧ w = w' := by
  have key := l00Has64_any xs y A c w h1
  generalize decide (y ∈ xs) = d at *
  go_enter Try.func38, Try.ntmps38
  go_wp2_with (fail)
  refine key.mono ?_; rintro e w' ⟨rfl, rfl⟩
  go_wp2_with (fail)
  go_ret
  exact ⟨rfl, rfl⟩
end Go.Proofs.Ytjppoejkfpeicaa

/- An array by value, at an index that is in it. -/
set_option linter.unusedVariables false
namespace Go.Proofs.Ytjppoejkfpeicaa
open Go.RowKit

/-- An array of one-cell elements, by value, at an index that is in it. -/
theorem run_index_in {P : Program} {t e : TypeId} {n : Nat} {cs : List Value} (h : P.underlying t = some (.array n e)) (ha : (P.info? e).map (·.size) = some 1) (hag : ∀ w, (isAgg e).run P w = .ok false w) (hn : cs.length = n)
    (k : Nat) (hk : k < n) (kd : IntKind) (w : World) : (Instr.index t (.agg cs.toArray) (.int kd (k : Int))).run P w = .ok (cs.getD k undef) w := by
  have h1 : (0 : Int) ≤ (k : Int) ∧ (k : Int) < (n : Int) := by omega
  have hs : (sizeOf e).run P w = .ok 1 w := by
    cases hq : P.info? e with
    | none => simp [hq] at ha
    | some i => simp [hq] at ha; simp [sizeOf, typeInfo, hq, ha]
  simp only [Instr.index, asIntOf, Sem.run_bind, Sem.run_pure, Result.andThen_ok, run_underlying h, if_pos h1, hs]
  have hl : k < cs.length := by omega
  simp [Go.part, hag, List.getD_eq_getElem?_getD, List.getElem?_eq_getElem hl]

theorem index_fl (xs : List Int) (hx : xs.length = 24) (k : Nat) (hk : k < 24) (w : World) : (Instr.index 38 (.agg (u8s xs).toArray) (.int .i64 (k : Int))).run Try.prog w = .ok (.int .u8 (nth xs k)) w := by
  rw [run_index_in Try.underlying38 (by kernel_rfl) (fun w => Try.isAgg5 w) (by rw [u8s_length]; exact hx) k hk]
  rw [List.getD_eq_getElem?_getD, u8s_get xs k (by omega)]; rfl
end Go.Proofs.Ytjppoejkfpeicaa

/- Contracts: impl.CountColours; two rows of counts compared. -/
set_option linter.unusedVariables false
namespace Go.Proofs.Ytjppoejkfpeicaa
open Go.RowKit

set_option maxHeartbeats 1000000 in
theorem CountColours_any (xs : List Int) (hx : xs.length = 24) (rx : Bytes xs) (w : World) :
    Calls Try.prog 32 #[fl xs] w fun e w' => e = .returned (.tuple #[.agg (i64s (ok6 (vf xs) (countL xs 24))).toArray, .int .i64 (codeV (vf xs))]) ∧ Below w.heap.size w w' := by
  unfold fl
  have W0 : Blk (((w.alloc (.cells (u8s xs).toArray 38)).alloc (.cells #[.int .i64 0, .int .i64 0, .int .i64 0, .int .i64 0, .int .i64 0, .int .i64 0] 44)).alloc (.cells #[.int .i64 0, .int .i64 0, .int .i64 0, .int .i64 0, .int .i64 0, .int .i64 0] 44)) w.heap.size (u8s xs) 38 := ((Blk.new _ _ _).alloc _).alloc _
  have W1 : Blk (((w.alloc (.cells (u8s xs).toArray 38)).alloc (.cells #[.int .i64 0, .int .i64 0, .int .i64 0, .int .i64 0, .int .i64 0, .int .i64 0] 44)).alloc (.cells #[.int .i64 0, .int .i64 0, .int .i64 0, .int .i64 0, .int .i64 0, .int .i64 0] 44)) (w.heap.size + 1) (i64s zero6) 44 := (Blk.mk _ (i64s zero6) _ (by simp)).alloc _
  have W2 : Blk (((w.alloc (.cells (u8s xs).toArray 38)).alloc (.cells #[.int .i64 0, .int .i64 0, .int .i64 0, .int .i64 0, .int .i64 0, .int .i64 0] 44)).alloc (.cells #[.int .i64 0, .int .i64 0, .int .i64 0, .int .i64 0, .int .i64 0, .int .i64 0] 44)) (w.heap.size + 1 + 1) (i64s zero6) 44 := Blk.mk _ (i64s zero6) _ (by simp)
  have b0 : Below w.heap.size w (((w.alloc (.cells (u8s xs).toArray 38)).alloc (.cells #[.int .i64 0, .int .i64 0, .int .i64 0, .int .i64 0, .int .i64 0, .int .i64 0] 44)).alloc (.cells #[.int .i64 0, .int .i64 0, .int .i64 0, .int .i64 0, .int .i64 0, .int .i64 0] 44)) := bl_new (bl_new (bl_new (Below.refl _ _) _) _) _
  have V0 := W0.farRow (g := w.heap.size + 1 + 1) (by omega) (i64s zero6).toArray
  have V1 := W1.farRow (g := w.heap.size + 1 + 1) (by omega) (i64s zero6).toArray
  have V2 := W2.setRow (i64s zero6)
  have d0 := bl_setRow b0 (g := w.heap.size + 1 + 1) (by omega) (i64s zero6).toArray
  cases h1 : vf xs
  · go_enter Try.func32, Try.ntmps32
    go_wp2_with (first | (refine store_blk rfl 44 _ _ rfl _ rfl (ds := i64s zero6) rfl W2 info_6 (by rw [i64s_length]; exact rfl) (by rw [i64s_length]; exact rfl) (i64s_one _) ?_) | (refine load_blk rfl 38 _ rfl _ rfl V0 Try.underlying38 rfl info_fl (by rw [u8s_length]; exact hx) ?_))
    refine (ValidFlag_any xs hx _).mono ?_; rintro e w1 ⟨rfl, hb1⟩
    have Y1 := V1.kept hb1
    have Y2 := V2.kept hb1
    go_wp2_with (first | (refine load_blk rfl 44 _ rfl _ rfl Y2 Try.underlying44 rfl info_6 (by rw [i64s_length]; exact rfl) ?_) | (refine store_blk rfl 44 _ _ rfl _ rfl (ds := i64s zero6) rfl Y1 info_6 (by rw [i64s_length]; exact rfl) (by rw [i64s_length]; exact rfl) (i64s_one _) ?_))
    refine ret_blk_tmp rfl _ rfl (Y1.setRow _) Try.underlying44 rfl info_6 (by rfl) rfl ⟨rfl, bl_setRow (bl_call d0 hb1) (by omega) _⟩
  · go_enter Try.func32, Try.ntmps32
    go_wp2_with (first | (refine store_blk rfl 44 _ _ rfl _ rfl (ds := i64s zero6) rfl W2 info_6 (by rw [i64s_length]; exact rfl) (by rw [i64s_length]; exact rfl) (i64s_one _) ?_) | (refine load_blk rfl 38 _ rfl _ rfl V0 Try.underlying38 rfl info_fl (by rw [u8s_length]; exact hx) ?_))
    refine (ValidFlag_any xs hx _).mono ?_; rintro e w1 ⟨rfl, hb1⟩
    have Y0 := V0.kept hb1
    have Y1 := V1.kept hb1
    have Y2 := V2.kept hb1
    have e0 := bl_call d0 hb1
    go_wp2_with (refine load_blk rfl 38 _ rfl _ rfl Y0 Try.underlying38 rfl info_fl (by rw [u8s_length]; exact hx) ?_)
    go_loopw [13] (fun i wr => ∃ k : Nat, k ≤ 24 ∧ i = .int .i64 k ∧ Blk wr w.heap.size (u8s xs) 38 ∧ Blk wr (w.heap.size + 1) (i64s zero6) 44 ∧ Blk wr (w.heap.size + 1 + 1) (i64s (countL xs k)) 44 ∧ Below w.heap.size w wr) (fun i _ => 24 - (intOf i).toNat)
    case atStart => exact ⟨0, by omega, rfl, Y0, Y1, Y2, e0⟩
    case round =>
      obtain ⟨k, hk, rfl, X0, X1, X2, hb⟩ := hrel
      by_cases hlt : k < 24
      · have hlt' : (k : Int) < 24 := by omega
        have n1 := (rx.nth k).1
        have n2 : nth xs k ≤ 5 := vf_nth h1 k (by omega)
        obtain ⟨c, hc⟩ := Int.eq_ofNat_of_zero_le n1
        have hc6 : c < 6 := by omega
        have hbd := cnt_bd xs k c
        have hst := As.mk (countL_step xs k c hc)
        have c0 : ∀ W, (Instr.index 38 (.agg (u8s xs).toArray) (.int .i64 (k : Int))).run Try.prog W = .ok (.int .u8 c) W := fun W => by rw [index_fl xs hx k hlt W, hc]
        have c2 : wr.cell? ⟨w.heap.size + 1 + 1, c, none⟩ = some (.int .i64 (cnt xs k c)) := by rw [X2.at, i64s_get _ c (by rw [countL_length]; exact hc6), countL_nth xs k c hc6]
        have f2 := X2.frozen c
        have hc6' : (c : Int) < 6 := by omega
        clear n1 n2 hc
        go_wp2
        go_roundw
        case rel => exact ⟨k + 1, by omega, by go_num, X0.far (by simp; omega) _, X1.far (by simp) _, by have := X2.set c (.int .i64 (cnt xs k c + 1)); rw [i64s_set, hst.out] at this; exact this, hb.setCell (by simp; omega) _⟩
        case measure => simp [intOf]; omega
      · obtain rfl : k = 24 := by omega
        have hl := countL_length xs 24
        go_wp2_with (first | (refine load_blk rfl 44 _ rfl _ rfl X2 Try.underlying44 rfl info_6 (by rw [i64s_length]; exact hl) ?_) | (refine store_blk rfl 44 _ _ rfl _ rfl (ds := i64s (countL xs 24)) rfl X1 info_6 (by rw [i64s_length]; exact hl) (by rw [i64s_length]; exact rfl) (i64s_one _) ?_))
        refine ret_blk_tmp rfl _ rfl (X1.setRow _) Try.underlying44 rfl info_6 (by rw [i64s_length]; exact hl) rfl ⟨rfl, bl_setRow hb (by omega) _⟩

end Go.Proofs.Ytjppoejkfpeicaa

/- Contracts: FlagText: both sides. -/
set_option linter.unusedVariables false
namespace Go.Proofs.Ytjppoejkfpeicaa
open Go.RowKit

theorem info_u8 : (Try.prog.info? 5).map (fun i => (i.zero, i.size, i.bytes)) = some (some (.int .u8 0), 1, 1) := by kernel_rfl
def letter (c : Int) : Int := nth [119, 121, 114, 98, 103, 107] c.toNat
theorem index_letters (c : Int) (h0 : 0 ≤ c) (h5 : c ≤ 5) (W : World) : (Instr.index 9 (.string ⟨#[119, 121, 114, 98, 103, 107]⟩) (.int .u8 c)).run Try.prog W = .ok (.int .u8 (letter c)) W := by
  rcases (by omega : c = 0 ∨ c = 1 ∨ c = 2 ∨ c = 3 ∨ c = 4 ∨ c = 5) with rfl | rfl | rfl | rfl | rfl | rfl
  all_goals (simp only [Instr.index, asIntOf, Sem.run_bind, Sem.run_pure, Result.andThen_ok, run_underlying Try.underlying9]; rfl)
/-- The text of the first k cells. -/
def textL (xs : List Int) : Nat → List Int
  | 0 => []
  | k + 1 => (if 0 < k ∧ k % 6 = 0 then textL xs k ++ [47] else textL xs k) ++ [letter (nth xs k)]
theorem textL_length (xs : List Int) : ∀ k, (textL xs k).length ≤ 2 * k
  | 0 => by simp [textL]
  | k + 1 => by
    have := textL_length xs k
    unfold textL
    split <;> simp <;> omega
theorem u8s_snoc (xs : List Int) (c : Int) : u8s xs ++ [.int .u8 c] = u8s (xs ++ [c]) := by simp [u8s]

end Go.Proofs.Ytjppoejkfpeicaa

/- Contracts: the texts of numbers below 100: spec.Decimal. -/
set_option linter.unusedVariables false
namespace Go.Proofs.Ytjppoejkfpeicaa
open Go.RowKit
section
variable {P : Program} {ops : Array Oper} {Q : Exit → Act → World → Prop} {S : World → Prop} {listed : Array Bool} {ts : List Value} {ds : List Deferred} {w : World} {fuel : Nat}
/-- One of the operations that may come up: a call of function f. -/
theorem kCall (i d f : Nat) {oi : Oper} (hi : ops[i]? = some oi) (hd : oi.dst = some d) {args : Array Value}
    (hw : Region.wanted oi (yielded ops ts.toArray) = true) (he : (execOp (Act.mk ts.toArray ds).eval oi).run P w = .ok (.enter f args) w) (v : Value) {R : World → Prop}
    (hc : Calls P f args w fun e w' => e = .returned v ∧ R w') {rs : List Nat}
    (h : ∀ w', R w' → S w' ∧ wpAnyH P .any ops Q S fuel (listed.setIfInBounds i true) ⟨(ts.set d v).toArray, ds⟩ w')
    (hs : AllReadyH P .any ops Q S fuel listed ⟨ts.toArray, ds⟩ w rs) : AllReadyH P .any ops Q S fuel listed ⟨ts.toArray, ds⟩ w (i :: rs) := by
  refine AllReadyH.cons hi (fun K hK => ?_) hs
  rw [if_pos hw]
  unfold Oper.wp
  rw [he, Oper.upon_enter]
  refine hc.mono ?_
  rintro e w' ⟨rfl, hR⟩
  obtain ⟨h1, h2⟩ := h w' hR
  refine hK.out _ _ h1 (fun _ => ?_)
  rw [hd]
  simpa [Act.put] using h2
/-- One of the operations that may come up: it gives a value and maybe another world. -/
theorem kVal (i d : Nat) {oi : Oper} (hi : ops[i]? = some oi) (hd : oi.dst = some d)
    (hw : Region.wanted oi (yielded ops ts.toArray) = true) {v : Value} {w' : World} (he : (execOp (Act.mk ts.toArray ds).eval oi).run P w = .ok (.value v) w') {rs : List Nat}
    (h1 : S w') (h2 : wpAnyH P .any ops Q S fuel (listed.setIfInBounds i true) ⟨(ts.set d v).toArray, ds⟩ w')
    (hs : AllReadyH P .any ops Q S fuel listed ⟨ts.toArray, ds⟩ w rs) : AllReadyH P .any ops Q S fuel listed ⟨ts.toArray, ds⟩ w (i :: rs) := by
  refine AllReadyH.cons hi (fun K hK => ?_) hs
  rw [if_pos hw]
  unfold Oper.wp
  rw [he, Oper.upon_value]
  refine hK.out _ _ h1 (fun _ => ?_)
  rw [hd]
  simpa [Act.put] using h2
end
/-- The text of a number below 100. -/
def dig (n : Nat) : ByteArray := if n < 10 then strOfNums [48 + (n : Int)] else strOfNums [48 + ((n : Int) / 10)] ++ strOfNums [48 + ((n : Int) % 10)]
theorem dig_small (n : Nat) (h : n < 10) : dig n = strOfNums [48 + (n : Int)] := by unfold dig; rw [if_pos h]
theorem dig_big (n : Nat) (h : ¬ n < 10) : dig n = strOfNums [48 + ((n : Int) / 10)] ++ strOfNums [48 + ((n : Int) % 10)] := by unfold dig; rw [if_neg h]
theorem dig_size (n : Nat) : (dig n).size ≤ 2 := by
  unfold dig
  split
  · rw [strOfNums_size]; simp
  · rw [ByteArray.size_append, strOfNums_size, strOfNums_size]; simp

theorem byte_string (x : Int) (w : World) (b : Nat) (h : Blk w b [.int .u8 x] 5) : (convert 34 9 (.slice (some ⟨b, 0, none⟩) 1 1)).run Try.prog w = .ok (.string (strOfNums [x])) w := by
  have hO : Own w 0 5 (.slice (some ⟨b, 0, none⟩) 1 1) (u8s [x]) := ⟨rfl, .inr ⟨b, 1, #[.int .u8 x], rfl, Nat.zero_le _, h, Nat.le_refl _, by simp [maxLen], rfl, rfl⟩⟩
  exact own_string (P := Try.prog) Try.underlying34 Try.underlying5 Try.underlying9 hO

end Go.Proofs.Ytjppoejkfpeicaa

/- What a call leaves: all old blocks but those of a set. And steps of a region that draws its order: calls whose answer is not known ahead, append. -/
set_option linter.unusedVariables false
namespace Go.Proofs.Ytjppoejkfpeicaa
open Go.RowKit

structure Grw (S : Nat → Prop) (w w' : World) : Prop where
  os : w'.os = w.os
  tape : w'.tape = w.tape
  output : w'.output = w.output
  size : w.heap.size ≤ w'.heap.size
  block : ∀ k, k < w.heap.size → ¬ S k → w'.heap[k]? = w.heap[k]?
section
variable {S S' : Nat → Prop} {w w' w'' : World}
theorem Grw.refl (S : Nat → Prop) (w : World) : Grw S w w := ⟨rfl, rfl, rfl, Nat.le_refl _, fun _ _ _ => rfl⟩
theorem Grw.trans (h : Grw S w w') (k : Grw S w' w'') : Grw S w w'' :=
  ⟨k.os.trans h.os, k.tape.trans h.tape, k.output.trans h.output, Nat.le_trans h.size k.size, fun i hi hn => (k.block i (Nat.lt_of_lt_of_le hi h.size) hn).trans (h.block i hi hn)⟩
theorem Grw.below (h : Below w.heap.size w w') : Grw S w w' := ⟨h.os, h.tape, h.output, h.size, fun i hi _ => h.block i hi⟩
theorem Grw.wider (h : Grw S w w') (hs : ∀ k, S k → S' k) : Grw S' w w' := ⟨h.os, h.tape, h.output, h.size, fun i hi hn => h.block i hi (fun hk => hn (hs i hk))⟩
theorem Grw.grown {P : Nat} (h : w.grownBy w' (some P)) (hp : S P) : Grw S w w' := ⟨h.os, h.tape, h.output, h.size, fun i hi hn => h.block i hi (fun e => by injection e with e; subst e; exact hn hp)⟩
theorem Grw.drewN (h : Grw S w w') (n : Nat) : Grw S w (w'.drewN n) := ⟨h.os, h.tape, h.output, h.size, h.block⟩
theorem Grw.drew (h : Grw S w w') : Grw S w w'.drew := ⟨h.os, h.tape, h.output, h.size, h.block⟩
theorem Grw.cell (h : Grw S w w') {a : Addr} {v : Value} (hc : w.cell? a = some v) (hn : ¬ S a.block) : w'.cell? a = some v :=
  (World.cell?_of_block (h.block a.block (World.block_lt_of_cell? w a hc) hn)).trans hc
theorem Grw.range (h : Grw S w w') {b o : Nat} {cs : List Value} (hr : w.rangeAt b o cs) (hn : ¬ S b) : w'.rangeAt b o cs := fun j v hv => h.cell (hr j v hv) hn
theorem Grw.blk (h : Grw S w w') {b : Nat} {cs : List Value} {t : TypeId} (hB : Blk w b cs t) (hn : ¬ S b) : Blk w' b cs t := (h.block b hB.lt hn).trans hB
theorem Grw.toBelow {B : Nat} {w0 : World} (h : Grw S w w') (hb : Below B w0 w) (hB : B ≤ w.heap.size) (hs : ∀ k, S k → B ≤ k) : Below B w0 w' :=
  ⟨h.os.trans hb.os, h.tape.trans hb.tape, h.output.trans hb.output, Nat.le_trans hb.size h.size, fun k hk => (h.block k (Nat.lt_of_lt_of_le hk hB) (fun e => Nat.not_lt.2 (hs k e) hk)).trans (hb.block k hk)⟩
end

section
variable {P : Program} {ops : Array Oper} {Q : Exit → Act → World → Prop} {S : World → Prop} {listed : Array Bool} {ts : List Value} {ds : List Deferred} {w : World} {fuel : Nat}
/-- One of the operations that may come up: a call of function f, whose answer is told by R. -/
theorem kCallE (i d f : Nat) {oi : Oper} (hi : ops[i]? = some oi) (hd : oi.dst = some d) {args : Array Value}
    (hw : Region.wanted oi (yielded ops ts.toArray) = true) (he : (execOp (Act.mk ts.toArray ds).eval oi).run P w = .ok (.enter f args) w) {R : Value → World → Prop}
    (hc : Calls P f args w fun e w' => ∃ v, e = .returned v ∧ R v w') {rs : List Nat}
    (h : ∀ v w', R v w' → S w' ∧ wpAnyH P .any ops Q S fuel (listed.setIfInBounds i true) ⟨(ts.set d v).toArray, ds⟩ w')
    (hs : AllReadyH P .any ops Q S fuel listed ⟨ts.toArray, ds⟩ w rs) : AllReadyH P .any ops Q S fuel listed ⟨ts.toArray, ds⟩ w (i :: rs) := by
  refine AllReadyH.cons hi (fun K hK => ?_) hs
  rw [if_pos hw]
  unfold Oper.wp
  rw [he, Oper.upon_enter]
  refine hc.mono ?_
  rintro e w' ⟨v, rfl, hR⟩
  obtain ⟨h1, h2⟩ := h v w' hR
  refine hK.out _ _ h1 (fun _ => ?_)
  rw [hd]
  simpa [Act.put] using h2
/-- One of the operations that may come up: append(v, ys...), v being a slice of our own. -/
theorem kApp {w0 : World} (i d : Nat) (base : Nat) {oi : Oper} (hi : ops[i]? = some oi) (hd : oi.dst = some d) (s x : Operand) (t e : TypeId) (z : Value) (bytes : Nat)
    (ho : oi.op = .call { callee := .builtin .append, args := #[s, x], argTypes := #[t, t] })
    (hw : Region.wanted oi (yielded ops ts.toArray) = true)
    (ht : P.underlying t = some (.slice e)) (hinfo : (P.info? e).map (fun i => (i.zero, i.size, i.bytes)) = some (some z, 1, bytes)) (hz : z.cells.size = 1) (hb0 : 0 < bytes)
    (v : Value) (cs : List Value) (ys : List Value) (b o c m : Nat) (hs : (Act.mk ts.toArray ds).eval s = v) (hx : (Act.mk ts.toArray ds).eval x = .slice (some ⟨b, o, none⟩) m c) (hm : ys.length = m) (h1 : ∀ u ∈ ys, u.oneCell' = true)
    (HO : Own w base e v cs) (hr : w.rangeAt b o ys) (HB : Below base w0 w) (hbase : base ≤ w.heap.size) (hl : (cs.length + m) * bytes ≤ 140737488355328) {rs : List Nat}
    (h : ∀ v1 w1, Own w1 base e v1 (cs ++ ys) → Below base w0 w1 → S w1 ∧ wpAnyH P .any ops Q S fuel (listed.setIfInBounds i true) ⟨(ts.set d v1).toArray, ds⟩ w1)
    (hrest : AllReadyH P .any ops Q S fuel listed ⟨ts.toArray, ds⟩ w rs) : AllReadyH P .any ops Q S fuel listed ⟨ts.toArray, ds⟩ w (i :: rs) := by
  obtain ⟨i0, hi0, hzz⟩ := Option.map_eq_some_iff.1 hinfo
  simp only [Prod.mk.injEq] at hzz
  obtain ⟨hz0, hz1, hz2⟩ := hzz
  have hlen : cs.length + m ≤ 140737488355328 := Nat.le_trans (Nat.le_mul_of_pos_right _ hb0) hl
  refine AllReadyH.cons hi (fun K hK => ?_) hrest
  rw [if_pos hw]
  obtain ⟨v', w', hrun, h2, h3, h4, h5⟩ := run_append_own_at (P := P) w base t oi.type e i0 z 1 bytes ht hi0 hz0 hz1 hz2 hz (by omega) v cs.length cs HO ⟨b, o, none⟩ m c ys (by omega)
    (fun j u hu => by have := hr j u hu; rwa [show (⟨b, o, none⟩ : Addr).add j = ⟨b, o + j, none⟩ from Addr.add_mid _ _ _]) h1 (by simp only [maxLen]; omega) hl hbase
  unfold Oper.wp execOp
  simp only [ho, resolve, invoke, builtin, Sem.run_bind, Sem.run_pure, Result.andThen_ok, List.map_toArray, List.map_cons, List.map_nil, hs, hx, hrun]
  have hO1 : Own w' base e v' (cs ++ ys) := by unfold Own; rw [List.length_append, hm]; exact h2
  obtain ⟨hS, hN⟩ := h v' w' hO1 (HB.grown h3 hbase (fun k hk => Own.ge HO k hk))
  refine hK.out _ _ hS (fun _ => ?_)
  rw [hd]
  simpa [Act.put] using hN
end
end Go.Proofs.Ytjppoejkfpeicaa

/- Contracts: the source of choices: next, pick, P6Pick. -/
set_option linter.unusedVariables false
namespace Go.Proofs.Ytjppoejkfpeicaa
open Go.RowKit

theorem grownBy_drewN' {w w' : World} {row : Option Nat} (hg : w.grownBy w' row) (n : Nat) : w.grownBy (w'.drewN n) row := ⟨hg.os, hg.tape, hg.output, hg.size, hg.block⟩
/-- A source: bytes, how far it has read, its number. -/
structure SrcAt (w : World) (P : Nat) (A : Option Addr) (xs : List Int) (c : Nat) (at' : Int) (seed : Int) : Prop where
  blk : Blk w P [.slice A xs.length c, .int .i64 at', .int .u64 seed] 100
  sl : Sl .u8 w A xs
  len : xs.length ≤ 4097
  bytes : ∀ x ∈ xs, 0 ≤ x ∧ x ≤ 255
  at0 : 0 ≤ at' ∧ at' ≤ 1000000000
  seed0 : 0 ≤ seed ∧ seed ≤ 18446744073709551615
  low : 0 < xs.length → ∀ b o, A = some ⟨b, o, none⟩ → b ≠ P
theorem Sl.ofGrown {k : IntKind} {w w' : World} {A : Option Addr} {xs : List Int} {P : Nat} (h : Sl k w A xs) (hg : w.grownBy w' (some P)) (hl : 0 < xs.length → ∀ b o, A = some ⟨b, o, none⟩ → b ≠ P) : Sl k w' A xs :=
  And.intro h.1 fun hp => by
    obtain ⟨b, o, e, hr⟩ := h.2 hp
    refine ⟨b, o, e, fun j v hv => ?_⟩
    exact hg.cell (hr j v hv) (by simp only [ne_eq, Option.some.injEq]; exact hl hp b o e)
theorem grow_set' {w w1 : World} {B : Nat} (h : w.grownBy w1 (some B)) (i : Nat) (v : Value) : w.grownBy (w1.setCell ⟨B, i, none⟩ v) (some B) :=
  ⟨h.os, h.tape, h.output, by simpa [World.setCell] using h.size, fun k hk hne => by rw [← h.block k hk hne]; exact heap_setCell_other w1 ⟨B, i, none⟩ k v (fun e => hne (by rw [e]))⟩
theorem u64_bd (z : Int) : 0 ≤ IntKind.u64.wrap z ∧ IntKind.u64.wrap z ≤ 18446744073709551615 := by simp [IntKind.wrap, IntKind.bits, IntKind.signed]; omega
theorem u8_conv {x : Int} (h : 0 ≤ x ∧ x ≤ 255) : IntKind.wrap .i64 x = x := by simp [IntKind.wrap, IntKind.bits, IntKind.signed]; omega
theorem and255 (q : Int) : ∃ r : Int, 0 ≤ r ∧ r ≤ 255 ∧ ∀ W, (binOp .and 98 (.int .u64 q) (.int .u64 255)).run Try.prog W = .ok (.int .u64 r) W := by
  have h : (BitVec.ofInt 64 q &&& BitVec.ofInt 64 255).toNat ≤ 255 := by
    rw [BitVec.toNat_and]; exact Nat.le_trans Nat.and_le_right (by decide)
  refine ⟨IntKind.u64.wrap (((BitVec.ofInt 64 q &&& BitVec.ofInt 64 255).toNat : Nat) : Int), (u64_bd _).1, ?_, fun W => rfl⟩
  generalize (BitVec.ofInt 64 q &&& BitVec.ofInt 64 255).toNat = z at *
  simp [IntKind.wrap, IntKind.bits, IntKind.signed]; omega
theorem shr40 (V : Int) : ∃ q : Int, ∀ W, (binOp .shr 98 (.int .u64 V) (.int .u64 40)).run Try.prog W = .ok (.int .u64 q) W := by
  refine ⟨V / 2 ^ (40 : Int).toNat, fun W => ?_⟩
  show (Op.shift .shr .u64 V .u64 40).run _ _ = _
  rw [shift_shr .u64 .u64 V 40 (by decide) (by decide)]
  rfl
section
variable {P : Program} {ops : Array Oper} {rest : List Oper} {op : Oper} {a : Act} {w : World} {Q : Exit → Act → World → Prop}
/-- An operation on two values, its answer told. -/
theorem take_bin (hgd : Region.wanted op (yielded ops a.tmps) = true) (bo : BinOp) (t t2 : TypeId) (x y : Operand) (ho : op.op = .binOp bo t x y t2) (vx vy v : Value) (hg : ∀ b1 b2, (eqGuard bo t b1 b2 vx vy).run P w = .ok () w) (hx : a.eval x = vx) (hy : a.eval y = vy)
    (hr : ∀ W, (binOp bo t vx vy).run P W = .ok v W) (h : wpList P ops Q rest (a.put op.dst v) w) : wpList P ops Q (op :: rest) a w :=
  BigFrame.wpList_want hgd fun _ hK => by
    have he : (execOp a.eval op).run P w = .ok (.value v) w := by
      unfold execOp
      rw [ho]
      simp only [hx, hy, Sem.run_bind, Sem.run_pure, Result.andThen_ok, hr, hg]
    unfold Oper.wp
    rw [he, Oper.upon_value]
    exact hK _ _ h
end
set_option maxRecDepth 100000 in
set_option maxHeartbeats 4000000 in
theorem next_any (P : Nat) (A : Option Addr) (xs : List Int) (c : Nat) (at' seed : Int) (w : World) (hS : SrcAt w P A xs c at' seed) (hat : at' < 999999999) :
    Calls Try.prog 87 #[.pointer (some ⟨P, 0, none⟩)] w fun e w' => (∃ x : Int, e = .returned (.int .i64 x) ∧ 0 ≤ x ∧ x ≤ 255) ∧ (∃ seed', SrcAt w' P A xs c (at' + 1) seed') ∧ w.grownBy w' (some P) := by
  obtain ⟨hB, hs, hl, hby, ha, hsd, hlow⟩ := hS
  have c0 := hB.at 0
  have c1 := hB.at 1
  have c2 := hB.at 2
  simp only [List.getElem?_cons_zero, List.getElem?_cons_succ] at c0 c1 c2
  have f1 := hB.frozen 1
  have f2 := hB.frozen 2
  obtain ⟨a, rfl⟩ : ∃ a : Nat, at' = (a : Int) := ⟨at'.toNat, by omega⟩
  have ha9 : (a : Int) ≤ 1000000000 := ha.2
  have hl9 : (xs.length : Int) ≤ 4097 := by omega
  by_cases hlt : a < xs.length
  · have hlt' : (a : Int) < (xs.length : Int) := by omega
    have hle' : (a : Int) + 1 ≤ (xs.length : Int) := by omega
    obtain ⟨b, o, rfl, hr⟩ := hs.2 (by omega)
    have cx : w.cell? ⟨b, o + a, none⟩ = some (.int .u8 (nth xs a)) := hr a _ (by show (List.map _ xs)[a]? = _; rw [List.getElem?_map, List.getElem?_eq_getElem hlt, nth_get xs a hlt]; rfl)
    have hx := hby _ (nth_mem xs a hlt)
    have hx0 := hx.1
    have hx1 := hx.2
    generalize nth xs a = x at *
    generalize hnl : xs.length = n at *
    have hnl := As.mk hnl
    have hl := As.mk (show xs.length ≤ 4097 by rw [hnl.out]; exact hl)
    clear hr
    go_enter Try.func87, Try.ntmps87
    go_wp2_with (fail)
    go_quiet (fail)
    go_wp2_with (fail)
    have hB1 : Blk (w.drewN nq) P [.slice (some ⟨b, o, none⟩) n c, .int .i64 (a : Int), .int .u64 seed] 100 := hB
    have cx1 : (w.drewN nq).cell? ⟨b, o + a, none⟩ = some (.int .u8 x) := cx
    have g1 : w.grownBy (w.drewN nq) (some P) := grownBy_drewN' (World.grownBy.refl _ _) nq
    clear hB cx c0 c1 c2 f1 f2
    generalize w.drewN nq = w1 at *
    have c0 := hB1.at 0
    have c1 := hB1.at 1
    have c2 := hB1.at 2
    simp only [List.getElem?_cons_zero, List.getElem?_cons_succ] at c0 c1 c2
    go_quiet (fail)
    have hB2 : Blk (w1.drewN nq) P [.slice (some ⟨b, o, none⟩) n c, .int .i64 (a : Int), .int .u64 seed] 100 := hB1
    have g2 := grownBy_drewN' g1 nq
    clear hB1 c0 c1 c2 cx1 g1
    generalize w1.drewN nq = w2 at *
    have c0 := hB2.at 0
    have c1 := hB2.at 1
    have c2 := hB2.at 2
    simp only [List.getElem?_cons_zero, List.getElem?_cons_succ] at c0 c1 c2
    have f1 := hB2.frozen 1
    have f2 := hB2.frozen 2
    go_wp2_with (fail)
    have hVb := u64_bd (IntKind.u64.wrap (IntKind.u64.wrap (seed * 6364136223846793005) + x) + 1442695040888963407)
    generalize IntKind.u64.wrap (IntKind.u64.wrap (IntKind.u64.wrap (seed * 6364136223846793005) + x) + 1442695040888963407) = V at hVb ⊢
    have hB3 := (hB2.set 1 (.int .i64 ((a : Int) + 1))).set 2 (.int .u64 V)
    have hB3 : Blk ((w2.setCell ⟨P, 1, none⟩ (.int .i64 ((a : Int) + 1))).setCell ⟨P, 2, none⟩ (.int .u64 V)) P [.slice (some ⟨b, o, none⟩) n c, .int .i64 ((a : Int) + 1), .int .u64 V] 100 := hB3
    have g3 := grow_set' (grow_set' g2 1 (.int .i64 ((a : Int) + 1))) 2 (.int .u64 V)
    clear hB2 c0 c1 c2 f1 f2 g2
    generalize (w2.setCell ⟨P, 1, none⟩ (.int .i64 ((a : Int) + 1))).setCell ⟨P, 2, none⟩ (.int .u64 V) = w3 at *
    have c0 := hB3.at 0
    have c1 := hB3.at 1
    have c2 := hB3.at 2
    simp only [List.getElem?_cons_zero, List.getElem?_cons_succ] at c0 c1 c2
    go_quiet (fail)
    have hB4 : Blk (w3.drewN nq) P [.slice (some ⟨b, o, none⟩) n c, .int .i64 ((a : Int) + 1), .int .u64 V] 100 := hB3
    have g4 := grownBy_drewN' g3 nq
    clear hB3 c0 c1 c2 g3
    generalize w3.drewN nq = w4 at *
    go_wp2_with (fail)
    go_ret
    refine ⟨⟨x, rfl, hx0, hx1⟩, ⟨V, ?_⟩, g4⟩
    exact ⟨by rw [hnl.out]; exact hB4, hs.ofGrown g4 (by rw [hnl.out]; exact hlow), hl.out, hby, ⟨by omega, by omega⟩, hVb, by rw [hnl.out]; exact hlow⟩
  · have hlt' : ¬ ((a : Int) < (xs.length : Int)) := by omega
    have hdec : decide ((a : Int) + 1 ≤ (xs.length : Int)) = false := decide_eq_false (by omega)
    generalize hnl : xs.length = n at *
    have hnl := As.mk hnl
    have hl := As.mk (show xs.length ≤ 4097 by rw [hnl.out]; exact hl)
    go_enter Try.func87, Try.ntmps87
    go_wp2_with (fail)
    go_quiet (fail)
    go_wp2_with (fail)
    have hB2 : Blk (w.drewN nq) P [.slice A n c, .int .i64 (a : Int), .int .u64 seed] 100 := hB
    have g2 : w.grownBy (w.drewN nq) (some P) := grownBy_drewN' (World.grownBy.refl _ _) nq
    clear hB c0 c1 c2 f1 f2
    generalize w.drewN nq = w2 at *
    have c0 := hB2.at 0
    have c1 := hB2.at 1
    have c2 := hB2.at 2
    simp only [List.getElem?_cons_zero, List.getElem?_cons_succ] at c0 c1 c2
    have f1 := hB2.frozen 1
    have f2 := hB2.frozen 2
    go_wp2_with (fail)
    have hVb := u64_bd (IntKind.u64.wrap (IntKind.u64.wrap (seed * 6364136223846793005)) + 1442695040888963407)
    generalize IntKind.u64.wrap (IntKind.u64.wrap (IntKind.u64.wrap (seed * 6364136223846793005)) + 1442695040888963407) = V at hVb ⊢
    have hB3 := (hB2.set 1 (.int .i64 ((a : Int) + 1))).set 2 (.int .u64 V)
    have hB3 : Blk ((w2.setCell ⟨P, 1, none⟩ (.int .i64 ((a : Int) + 1))).setCell ⟨P, 2, none⟩ (.int .u64 V)) P [.slice A n c, .int .i64 ((a : Int) + 1), .int .u64 V] 100 := hB3
    have g3 := grow_set' (grow_set' g2 1 (.int .i64 ((a : Int) + 1))) 2 (.int .u64 V)
    clear hB2 c0 c1 c2 f1 f2 g2
    generalize (w2.setCell ⟨P, 1, none⟩ (.int .i64 ((a : Int) + 1))).setCell ⟨P, 2, none⟩ (.int .u64 V) = w3 at *
    have c0 := hB3.at 0
    have c1 := hB3.at 1
    have c2 := hB3.at 2
    simp only [List.getElem?_cons_zero, List.getElem?_cons_succ] at c0 c1 c2
    go_quiet (fail)
    have hB4 : Blk (w3.drewN nq) P [.slice A n c, .int .i64 ((a : Int) + 1), .int .u64 V] 100 := hB3
    have g4 := grownBy_drewN' g3 nq
    clear hB3 c0 c1 c2 g3
    generalize w3.drewN nq = w4 at *
    have c2 := hB4.at 2
    simp only [List.getElem?_cons_zero, List.getElem?_cons_succ] at c2
    replace hVb := As.mk hVb
    replace hsd := As.mk hsd
    obtain ⟨q, hq⟩ := shr40 V
    obtain ⟨r, r0, r1, hr⟩ := and255 q
    generalize IntKind.u64.wrap (seed * 6364136223846793005) = Z
    generalize IntKind.u64.wrap Z = Z2
    go_wp2_with (first | (refine take_bin rfl .shr 98 _ _ _ rfl (.int .u64 V) (.int .u64 40) (.int .u64 q) (fun _ _ => rfl) rfl rfl hq ?_) | (refine take_bin rfl .and 98 _ _ _ rfl (.int .u64 q) (.int .u64 255) (.int .u64 r) (fun _ _ => rfl) rfl rfl hr ?_))
    go_ret
    refine ⟨⟨r, rfl, r0, r1⟩, ⟨V, ?_⟩, g4⟩
    exact ⟨by rw [hnl.out]; exact hB4, hs.ofGrown g4 (by rw [hnl.out]; exact hlow), hl.out, hby, ⟨by omega, by omega⟩, hVb.out, by rw [hnl.out]; exact hlow⟩

/-- A source at its start, or behind some choices. -/
def Src (w : World) (P : Nat) (A : Option Addr) (xs : List Int) (c : Nat) (k : Nat) : Prop := ∃ at' seed, SrcAt w P A xs c at' seed ∧ at' ≤ (k : Int)
theorem next_src (P : Nat) (A : Option Addr) (xs : List Int) (c k : Nat) (hk : k < 999999999) (w : World) (hS : Src w P A xs c k) :
    Calls Try.prog 87 #[.pointer (some ⟨P, 0, none⟩)] w fun e w' => (∃ x : Int, e = .returned (.int .i64 x) ∧ 0 ≤ x ∧ x ≤ 255) ∧ Src w' P A xs c (k + 1) ∧ w.grownBy w' (some P) := by
  obtain ⟨at', seed, h, hl⟩ := hS
  refine (next_any P A xs c at' seed w h (by omega)).mono ?_
  rintro e w' ⟨h1, ⟨s2, h2⟩, h3⟩
  exact ⟨h1, ⟨at' + 1, s2, h2, by omega⟩, h3⟩
set_option maxRecDepth 100000 in
set_option maxHeartbeats 1000000 in
theorem pick_src (P : Nat) (A : Option Addr) (xs : List Int) (c k : Nat) (hk : k < 999999999) (n : Int) (hn : 2 ≤ n ∧ n ≤ 200) (w : World) (hS : Src w P A xs c k) :
    Calls Try.prog 57 #[.pointer (some ⟨P, 0, none⟩), .int .i64 n] w fun e w' => (∃ x : Int, e = .returned (.int .i64 x) ∧ 0 ≤ x ∧ x < n) ∧ Src w' P A xs c (k + 1) ∧ w.grownBy w' (some P) := by
  have key := next_src P A xs c k hk w hS
  have h1 : ¬ (n ≤ 1) := by omega
  have h2 : ¬ (200 < n) := by omega
  have h0 : ¬ (n = 0) := by omega
  have hn1 := hn.1
  have hn2 := hn.2
  go_enter Try.func57, Try.ntmps57
  go_wp2_with (fail)
  refine key.mono ?_; rintro e w1 ⟨⟨x, rfl, x0, x1⟩, hS1, hg⟩
  have hm : Int.tmod x n = x % n := by rw [Int.tmod_eq_emod_of_nonneg x0]
  have m0 := Int.emod_nonneg x (by omega : n ≠ 0)
  have m1 := Int.emod_lt_of_pos x (by omega : 0 < n)
  generalize x % n = y at *
  go_wp2_with (fail)
  go_ret
  exact ⟨⟨y, rfl, m0, m1⟩, hS1, hg⟩
set_option maxRecDepth 100000 in
set_option maxHeartbeats 1000000 in
theorem l00From_any (A : Option Addr) (xs : List Int) (c : Nat) (w : World) (hs : Sl .u8 w A xs) (hl : xs.length ≤ 4097) (hb : ∀ x ∈ xs, 0 ≤ x ∧ x ≤ 255) :
    Calls Try.prog 56 #[.slice A xs.length c] w fun e w' => e = .returned (.pointer (some ⟨w.heap.size, 0, none⟩)) ∧ Src w' w.heap.size A xs c 0 ∧ Below w.heap.size w w' := by
  have bb := bl_new (Below.refl _ w) (.cells #[.slice A xs.length c, .int .i64 0, .int .u64 0] 100)
  have B0 : Blk (w.alloc (.cells #[.slice A xs.length c, .int .i64 0, .int .u64 0] 100)) w.heap.size [.slice A xs.length c, .int .i64 0, .int .u64 0] 100 := Blk.mk w [_, _, _] _ rfl
  have hS : Src (w.alloc (.cells #[.slice A xs.length c, .int .i64 0, .int .u64 0] 100)) w.heap.size A xs c 0 := ⟨0, 0, ⟨B0, hs.kept bb, hl, hb, by omega, by omega, fun hp b o e => by
      obtain ⟨b', o', e', hr⟩ := hs.2 hp
      rw [e] at e'
      simp only [Option.some.injEq, Addr.mk.injEq] at e'
      have hlt := World.block_lt_of_cell? w _ (hr 0 (.int .u8 xs[0]) (by rw [List.getElem?_map, List.getElem?_eq_getElem hp]; rfl))
      have : b = b' := e'.1
      simp only at hlt; omega⟩, by omega⟩
  generalize xs.length = n at *
  go_enter Try.func56, Try.ntmps56
  go_wp2_with (fail)
  go_ret
  exact ⟨rfl, hS, bb⟩
set_option maxRecDepth 100000 in
set_option maxHeartbeats 1000000 in
theorem P6Pick_any (n : Int) (hn : 2 ≤ n ∧ n ≤ 200) (A : Option Addr) (xs : List Int) (c : Nat) (w : World) (hs : Sl .u8 w A xs) (hl : xs.length ≤ 4097) (hb : ∀ x ∈ xs, 0 ≤ x ∧ x ≤ 255) :
    Calls Try.prog 19 #[.slice A xs.length c, .int .i64 n] w fun e w' => (∃ x : Int, e = .returned (.int .i64 x) ∧ 0 ≤ x ∧ x < n) ∧ Below w.heap.size w w' := by
  have key := l00From_any A xs c w hs hl hb
  have key2 := fun W h => pick_src w.heap.size A xs c 0 (by omega) n hn W h
  generalize xs.length = m at *
  go_enter Try.func19, Try.ntmps19
  go_wp2_with (fail)
  refine key.mono ?_; rintro e w1 ⟨rfl, hS, hb1⟩
  go_wp2_with (fail)
  refine (key2 w1 hS).mono ?_; rintro e w2 ⟨⟨x, rfl, x0, x1⟩, _, hg⟩
  have hb2 : Below w.heap.size w w2 := hb1.grown hg hb1.size (fun k hk => by simp only [Option.some.injEq] at hk; omega)
  go_wp2_with (fail)
  go_ret
  exact ⟨⟨x, rfl, x0, x1⟩, hb2⟩
end Go.Proofs.Ytjppoejkfpeicaa

/- Contracts: the reference's crosses, borders, chequers, plain flags. -/
set_option linter.unusedVariables false
namespace Go.Proofs.Ytjppoejkfpeicaa
open Go.RowKit

set_option maxHeartbeats 400000 in
theorem sCrossOf_any (a b : Int) (w : World) :
    Calls Try.prog 27 #[.int .i64 a, .int .i64 b] w fun e w' => e = .returned (.tuple #[fl (okF (aC [a, b]) (madeL 0 a b)), .int .i64 (codeR (aC [a, b]))]) ∧ Below w.heap.size w w' := by
  have W2 : Blk (w.alloc (.cells #[.int .u8 0, .int .u8 0, .int .u8 0, .int .u8 0, .int .u8 0, .int .u8 0, .int .u8 0, .int .u8 0, .int .u8 0, .int .u8 0, .int .u8 0, .int .u8 0, .int .u8 0, .int .u8 0, .int .u8 0, .int .u8 0, .int .u8 0, .int .u8 0, .int .u8 0, .int .u8 0, .int .u8 0, .int .u8 0, .int .u8 0, .int .u8 0] 38)) w.heap.size (u8s zero24) 38 := Blk.mk _ (u8s zero24) _ rfl
  have b0 : Below w.heap.size w (w.alloc (.cells #[.int .u8 0, .int .u8 0, .int .u8 0, .int .u8 0, .int .u8 0, .int .u8 0, .int .u8 0, .int .u8 0, .int .u8 0, .int .u8 0, .int .u8 0, .int .u8 0, .int .u8 0, .int .u8 0, .int .u8 0, .int .u8 0, .int .u8 0, .int .u8 0, .int .u8 0, .int .u8 0, .int .u8 0, .int .u8 0, .int .u8 0, .int .u8 0] 38)) := bl_new (Below.refl _ _) _
  have hl : (okF (aC [a, b]) (madeL 0 a b)).length = 24 := okF_length (madeL_length _ _ _)
  have key := fun W => l01Made0_any a b W
  generalize ho : okF (aC [a, b]) (madeL 0 a b) = ys at *
  go_enter Try.func27, Try.ntmps27
  go_wp2_with (fail)
  refine (key _).mono ?_; rintro e w1 ⟨rfl, hb1⟩
  have h2 := W2.kept hb1
  unfold fl
  go_wp2_with (refine store_blk rfl 38 _ _ rfl _ rfl rfl h2 info_fl (by rw [u8s_length]; exact hl) (by rw [u8s_length]; exact zero24_length) (u8s_one _) ?_)
  refine ret_blk_tmp rfl _ rfl (h2.setRow _) Try.underlying38 rfl info_fl (by rw [u8s_length]; exact hl) rfl ⟨rfl, bl_setRow (bl_call b0 hb1) (by omega) _⟩

set_option maxHeartbeats 400000 in
theorem sBorderOf_any (a b : Int) (w : World) :
    Calls Try.prog 28 #[.int .i64 a, .int .i64 b] w fun e w' => e = .returned (.tuple #[fl (okF (aC [a, b]) (madeL 1 a b)), .int .i64 (codeR (aC [a, b]))]) ∧ Below w.heap.size w w' := by
  have W2 : Blk (w.alloc (.cells #[.int .u8 0, .int .u8 0, .int .u8 0, .int .u8 0, .int .u8 0, .int .u8 0, .int .u8 0, .int .u8 0, .int .u8 0, .int .u8 0, .int .u8 0, .int .u8 0, .int .u8 0, .int .u8 0, .int .u8 0, .int .u8 0, .int .u8 0, .int .u8 0, .int .u8 0, .int .u8 0, .int .u8 0, .int .u8 0, .int .u8 0, .int .u8 0] 38)) w.heap.size (u8s zero24) 38 := Blk.mk _ (u8s zero24) _ rfl
  have b0 : Below w.heap.size w (w.alloc (.cells #[.int .u8 0, .int .u8 0, .int .u8 0, .int .u8 0, .int .u8 0, .int .u8 0, .int .u8 0, .int .u8 0, .int .u8 0, .int .u8 0, .int .u8 0, .int .u8 0, .int .u8 0, .int .u8 0, .int .u8 0, .int .u8 0, .int .u8 0, .int .u8 0, .int .u8 0, .int .u8 0, .int .u8 0, .int .u8 0, .int .u8 0, .int .u8 0] 38)) := bl_new (Below.refl _ _) _
  have hl : (okF (aC [a, b]) (madeL 1 a b)).length = 24 := okF_length (madeL_length _ _ _)
  have key := fun W => l01Made1_any a b W
  generalize ho : okF (aC [a, b]) (madeL 1 a b) = ys at *
  go_enter Try.func28, Try.ntmps28
  go_wp2_with (fail)
  refine (key _).mono ?_; rintro e w1 ⟨rfl, hb1⟩
  have h2 := W2.kept hb1
  unfold fl
  go_wp2_with (refine store_blk rfl 38 _ _ rfl _ rfl rfl h2 info_fl (by rw [u8s_length]; exact hl) (by rw [u8s_length]; exact zero24_length) (u8s_one _) ?_)
  refine ret_blk_tmp rfl _ rfl (h2.setRow _) Try.underlying38 rfl info_fl (by rw [u8s_length]; exact hl) rfl ⟨rfl, bl_setRow (bl_call b0 hb1) (by omega) _⟩

set_option maxHeartbeats 400000 in
theorem sChequersOf_any (a b : Int) (w : World) :
    Calls Try.prog 29 #[.int .i64 a, .int .i64 b] w fun e w' => e = .returned (.tuple #[fl (okF (aC [a, b]) (madeL 2 a b)), .int .i64 (codeR (aC [a, b]))]) ∧ Below w.heap.size w w' := by
  have W2 : Blk (w.alloc (.cells #[.int .u8 0, .int .u8 0, .int .u8 0, .int .u8 0, .int .u8 0, .int .u8 0, .int .u8 0, .int .u8 0, .int .u8 0, .int .u8 0, .int .u8 0, .int .u8 0, .int .u8 0, .int .u8 0, .int .u8 0, .int .u8 0, .int .u8 0, .int .u8 0, .int .u8 0, .int .u8 0, .int .u8 0, .int .u8 0, .int .u8 0, .int .u8 0] 38)) w.heap.size (u8s zero24) 38 := Blk.mk _ (u8s zero24) _ rfl
  have b0 : Below w.heap.size w (w.alloc (.cells #[.int .u8 0, .int .u8 0, .int .u8 0, .int .u8 0, .int .u8 0, .int .u8 0, .int .u8 0, .int .u8 0, .int .u8 0, .int .u8 0, .int .u8 0, .int .u8 0, .int .u8 0, .int .u8 0, .int .u8 0, .int .u8 0, .int .u8 0, .int .u8 0, .int .u8 0, .int .u8 0, .int .u8 0, .int .u8 0, .int .u8 0, .int .u8 0] 38)) := bl_new (Below.refl _ _) _
  have hl : (okF (aC [a, b]) (madeL 2 a b)).length = 24 := okF_length (madeL_length _ _ _)
  have key := fun W => l01Made2_any a b W
  generalize ho : okF (aC [a, b]) (madeL 2 a b) = ys at *
  go_enter Try.func29, Try.ntmps29
  go_wp2_with (fail)
  refine (key _).mono ?_; rintro e w1 ⟨rfl, hb1⟩
  have h2 := W2.kept hb1
  unfold fl
  go_wp2_with (refine store_blk rfl 38 _ _ rfl _ rfl rfl h2 info_fl (by rw [u8s_length]; exact hl) (by rw [u8s_length]; exact zero24_length) (u8s_one _) ?_)
  refine ret_blk_tmp rfl _ rfl (h2.setRow _) Try.underlying38 rfl info_fl (by rw [u8s_length]; exact hl) rfl ⟨rfl, bl_setRow (bl_call b0 hb1) (by omega) _⟩

/-- A plain flag. -/
def plainL (a : Int) : List Int := (List.range 24).map fun _ => a
theorem plainL_length (a : Int) : (plainL a).length = 24 := by simp [plainL]

set_option maxHeartbeats 1000000 in
theorem sPlainFlag_any (a : Int) (w : World) :
    Calls Try.prog 26 #[.int .i64 a] w fun e w' => e = .returned (.tuple #[fl (okF (inR a 0 5) (plainL a)), .int .i64 (codeR (inR a 0 5))]) ∧ Below w.heap.size w w' := by
  have B0 : Blk ((w.alloc (.cells #[.int .u8 0, .int .u8 0, .int .u8 0, .int .u8 0, .int .u8 0, .int .u8 0, .int .u8 0, .int .u8 0, .int .u8 0, .int .u8 0, .int .u8 0, .int .u8 0, .int .u8 0, .int .u8 0, .int .u8 0, .int .u8 0, .int .u8 0, .int .u8 0, .int .u8 0, .int .u8 0, .int .u8 0, .int .u8 0, .int .u8 0, .int .u8 0] 38)).alloc (.cells #[.int .u8 0, .int .u8 0, .int .u8 0, .int .u8 0, .int .u8 0, .int .u8 0, .int .u8 0, .int .u8 0, .int .u8 0, .int .u8 0, .int .u8 0, .int .u8 0, .int .u8 0, .int .u8 0, .int .u8 0, .int .u8 0, .int .u8 0, .int .u8 0, .int .u8 0, .int .u8 0, .int .u8 0, .int .u8 0, .int .u8 0, .int .u8 0] 38)) w.heap.size (u8s zero24) 38 := (Blk.mk _ (u8s zero24) _ rfl).alloc _
  have B1 : Blk ((w.alloc (.cells #[.int .u8 0, .int .u8 0, .int .u8 0, .int .u8 0, .int .u8 0, .int .u8 0, .int .u8 0, .int .u8 0, .int .u8 0, .int .u8 0, .int .u8 0, .int .u8 0, .int .u8 0, .int .u8 0, .int .u8 0, .int .u8 0, .int .u8 0, .int .u8 0, .int .u8 0, .int .u8 0, .int .u8 0, .int .u8 0, .int .u8 0, .int .u8 0] 38)).alloc (.cells #[.int .u8 0, .int .u8 0, .int .u8 0, .int .u8 0, .int .u8 0, .int .u8 0, .int .u8 0, .int .u8 0, .int .u8 0, .int .u8 0, .int .u8 0, .int .u8 0, .int .u8 0, .int .u8 0, .int .u8 0, .int .u8 0, .int .u8 0, .int .u8 0, .int .u8 0, .int .u8 0, .int .u8 0, .int .u8 0, .int .u8 0, .int .u8 0] 38)) (w.heap.size + 1) (u8s zero24) 38 := Blk.mk _ (u8s zero24) _ (by simp)
  have b0 : Below w.heap.size w ((w.alloc (.cells #[.int .u8 0, .int .u8 0, .int .u8 0, .int .u8 0, .int .u8 0, .int .u8 0, .int .u8 0, .int .u8 0, .int .u8 0, .int .u8 0, .int .u8 0, .int .u8 0, .int .u8 0, .int .u8 0, .int .u8 0, .int .u8 0, .int .u8 0, .int .u8 0, .int .u8 0, .int .u8 0, .int .u8 0, .int .u8 0, .int .u8 0, .int .u8 0] 38)).alloc (.cells #[.int .u8 0, .int .u8 0, .int .u8 0, .int .u8 0, .int .u8 0, .int .u8 0, .int .u8 0, .int .u8 0, .int .u8 0, .int .u8 0, .int .u8 0, .int .u8 0, .int .u8 0, .int .u8 0, .int .u8 0, .int .u8 0, .int .u8 0, .int .u8 0, .int .u8 0, .int .u8 0, .int .u8 0, .int .u8 0, .int .u8 0, .int .u8 0] 38)) := bl_new (bl_new (Below.refl _ _) _) _
  have C0 := B0.farRow (g := w.heap.size + 1) (by omega) (u8s zero24).toArray
  have C1 := B1.setRow (u8s zero24)
  have c0 := bl_setRow b0 (g := w.heap.size + 1) (by omega) (u8s zero24).toArray
  cases h1 : inR a 0 5
  · go_enter Try.func26, Try.ntmps26
    go_wp2_with (first | (refine store_blk rfl 38 _ _ rfl _ rfl (ds := u8s zero24) rfl B1 info_fl (by rfl) (by rfl) (u8s_one _) ?_) | (go_at_call 67; refine (l01Colour_any _ _).mono ?_; rintro e w' ⟨rfl, rfl⟩) | (refine load_blk rfl 38 _ rfl _ rfl C1 Try.underlying38 rfl info_fl (by rw [u8s_length]; exact rfl) ?_) | (refine store_blk rfl 38 _ _ rfl _ rfl (ds := u8s zero24) rfl C0 info_fl (by rfl) (by rfl) (u8s_one _) ?_))
    refine ret_blk_tmp rfl _ rfl (C0.setRow _) Try.underlying38 rfl info_fl (by rfl) rfl ⟨rfl, bl_setRow c0 (by omega) _⟩
  · have n1 := ((inR_iff _ _ _).1 h1).1; have n2 := ((inR_iff _ _ _).1 h1).2
    have hz : part (fun _ => a) 24 0 = zero24 := part_zero _ _
    have HZ := As.mk hz
    clear hz
    go_enter Try.func26, Try.ntmps26
    go_wp2_with (first | (refine store_blk rfl 38 _ _ rfl _ rfl (ds := u8s zero24) rfl B1 info_fl (by rfl) (by rfl) (u8s_one _) ?_) | (go_at_call 67; refine (l01Colour_any _ _).mono ?_; rintro e w' ⟨rfl, rfl⟩))
    go_loopw [5] (fun i wr => ∃ k : Nat, k ≤ 24 ∧ i = .int .i64 k ∧ Blk wr w.heap.size (u8s zero24) 38 ∧ Blk wr (w.heap.size + 1) (u8s (part (fun _ => a) 24 k)) 38 ∧ Below w.heap.size w wr) (fun i _ => 24 - (intOf i).toNat)
    case atStart => exact ⟨0, by omega, rfl, C0, by rw [HZ.out]; exact C1, c0⟩
    case round =>
      obtain ⟨k, hk, rfl, g1, g2, hb⟩ := hrel
      clear B0 B1 b0 C0 C1 c0 HZ
      by_cases hlt : k < 24
      · have hlt' : (k : Int) < 24 := by omega
        obtain ⟨v2, c2⟩ := g2.some k (by rw [u8s_length, part_length]; exact hlt)
        have f2 := g2.frozen k
        go_wp2
        go_roundw
        case rel => exact ⟨k + 1, by omega, by go_num, g1.far (by simp) _, by have := g2.set k (.int .u8 a); rw [u8s_set, part_set (fun _ => a)] at this; exact this, hb.setCell (by simp) _⟩
        case measure => simp [intOf]; omega
      · obtain rfl : k = 24 := by omega
        rw [part_full] at g2
        have hl := plainL_length a
        change Blk wr (w.heap.size + 1) (u8s (plainL a)) _ at g2
        go_wp2_with (first | (refine load_blk rfl 38 _ rfl _ rfl g2 Try.underlying38 rfl info_fl (by rw [u8s_length]; exact hl) ?_) | (refine store_blk rfl 38 _ _ rfl _ rfl rfl g1 info_fl (by rw [u8s_length]; exact hl) (by rw [u8s_length]; exact zero24_length) (u8s_one _) ?_))
        refine ret_blk_tmp rfl _ rfl (g1.setRow _) Try.underlying38 rfl info_fl (by rw [u8s_length]; exact hl) rfl ⟨rfl, bl_setRow hb (by omega) _⟩
end Go.Proofs.Ytjppoejkfpeicaa

/- Contracts: what the patterns' functions tell. -/
set_option linter.unusedVariables false
namespace Go.Proofs.Ytjppoejkfpeicaa
open Go.RowKit

theorem CrossOf1_any (a b : Int) (A B k : Nat) (hk : k < 24) (w : World) (hB : w.cell? ⟨B, 0, none⟩ = some (.int .i64 b)) (hA : w.cell? ⟨A, 0, none⟩ = some (.int .i64 a)) :
    Calls Try.prog 59 #[.int .i64 ((k : Int) % 6), .int .i64 ((k : Int) / 6), .pointer (some ⟨B, 0, none⟩), .pointer (some ⟨A, 0, none⟩)] w fun e w' => e = .returned (.int .i64 (madeF 0 a b k)) ∧ Below w.heap.size w w' := by
  have hc : k = 0 ∨ k = 1 ∨ k = 2 ∨ k = 3 ∨ k = 4 ∨ k = 5 ∨ k = 6 ∨ k = 7 ∨ k = 8 ∨ k = 9 ∨ k = 10 ∨ k = 11 ∨ k = 12 ∨ k = 13 ∨ k = 14 ∨ k = 15 ∨ k = 16 ∨ k = 17 ∨ k = 18 ∨ k = 19 ∨ k = 20 ∨ k = 21 ∨ k = 22 ∨ k = 23 := by omega
  rcases hc with rfl | rfl | rfl | rfl | rfl | rfl | rfl | rfl | rfl | rfl | rfl | rfl | rfl | rfl | rfl | rfl | rfl | rfl | rfl | rfl | rfl | rfl | rfl | rfl
  all_goals
    go_enter Try.func59, Try.ntmps59
    go_wp2_with (go_at_call 60; refine (either_any _ _ _ _).mono ?_; rintro e w' ⟨rfl, rfl⟩)
    go_ret
    exact ⟨rfl, Below.refl _ _⟩
theorem BorderOf1_any (a b : Int) (A B k : Nat) (hk : k < 24) (w : World) (hB : w.cell? ⟨B, 0, none⟩ = some (.int .i64 b)) (hA : w.cell? ⟨A, 0, none⟩ = some (.int .i64 a)) :
    Calls Try.prog 61 #[.int .i64 ((k : Int) % 6), .int .i64 ((k : Int) / 6), .pointer (some ⟨B, 0, none⟩), .pointer (some ⟨A, 0, none⟩)] w fun e w' => e = .returned (.int .i64 (madeF 1 a b k)) ∧ Below w.heap.size w w' := by
  have hc : k = 0 ∨ k = 1 ∨ k = 2 ∨ k = 3 ∨ k = 4 ∨ k = 5 ∨ k = 6 ∨ k = 7 ∨ k = 8 ∨ k = 9 ∨ k = 10 ∨ k = 11 ∨ k = 12 ∨ k = 13 ∨ k = 14 ∨ k = 15 ∨ k = 16 ∨ k = 17 ∨ k = 18 ∨ k = 19 ∨ k = 20 ∨ k = 21 ∨ k = 22 ∨ k = 23 := by omega
  rcases hc with rfl | rfl | rfl | rfl | rfl | rfl | rfl | rfl | rfl | rfl | rfl | rfl | rfl | rfl | rfl | rfl | rfl | rfl | rfl | rfl | rfl | rfl | rfl | rfl
  all_goals
    go_enter Try.func61, Try.ntmps61
    go_wp2_with (go_at_call 60; refine (either_any _ _ _ _).mono ?_; rintro e w' ⟨rfl, rfl⟩)
    go_ret
    exact ⟨rfl, Below.refl _ _⟩
theorem ChequersOf1_any (a b : Int) (A B k : Nat) (hk : k < 24) (w : World) (hB : w.cell? ⟨B, 0, none⟩ = some (.int .i64 b)) (hA : w.cell? ⟨A, 0, none⟩ = some (.int .i64 a)) :
    Calls Try.prog 62 #[.int .i64 ((k : Int) % 6), .int .i64 ((k : Int) / 6), .pointer (some ⟨A, 0, none⟩), .pointer (some ⟨B, 0, none⟩)] w fun e w' => e = .returned (.int .i64 (madeF 2 a b k)) ∧ Below w.heap.size w w' := by
  have hc : k = 0 ∨ k = 1 ∨ k = 2 ∨ k = 3 ∨ k = 4 ∨ k = 5 ∨ k = 6 ∨ k = 7 ∨ k = 8 ∨ k = 9 ∨ k = 10 ∨ k = 11 ∨ k = 12 ∨ k = 13 ∨ k = 14 ∨ k = 15 ∨ k = 16 ∨ k = 17 ∨ k = 18 ∨ k = 19 ∨ k = 20 ∨ k = 21 ∨ k = 22 ∨ k = 23 := by omega
  rcases hc with rfl | rfl | rfl | rfl | rfl | rfl | rfl | rfl | rfl | rfl | rfl | rfl | rfl | rfl | rfl | rfl | rfl | rfl | rfl | rfl | rfl | rfl | rfl | rfl
  all_goals
    go_enter Try.func62, Try.ntmps62
    go_wp2_with (go_at_call 60; refine (either_any _ _ _ _).mono ?_; rintro e w' ⟨rfl, rfl⟩)
    go_ret
    exact ⟨rfl, Below.refl _ _⟩
end Go.Proofs.Ytjppoejkfpeicaa
