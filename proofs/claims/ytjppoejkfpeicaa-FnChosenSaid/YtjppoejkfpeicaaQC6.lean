/- Contracts and plain facts, several texts in one. -/
import Derived.Test.YtjppoejkfpeicaaQC5
import Derived.Test.YtjppoejkfpeicaaQC1
import Derived.Maps.OwnSet
import Derived.DeepKeys4
import Derived.Test.YtjppoejkfpeicaaQC2
/- Contracts for MostDistinct: lists of numbers compared; the map of far pairs; whether a choice is accepted. -/
set_option linter.unusedVariables false
set_option linter.unusedSimpArgs false
namespace Go.Proofs.Ytjppoejkfpeicaa
open Go.RowKit

def ni (X : List Nat) : List Int := X.map (fun k : Nat => (k : Int))
theorem ni_length (X : List Nat) : (ni X).length = X.length := by simp [ni]
theorem ni_snoc (X : List Nat) (k : Nat) : ni X ++ [(k : Int)] = ni (X ++ [k]) := by simp [ni]
theorem ni_nth (X : List Nat) (k : Nat) (h : k < X.length) : nth (ni X) k = ((X.getD k 0 : Nat) : Int) := by
  simp [nth, ni, List.getElem?_eq_getElem h]
def cmpL : List Int → List Int → Int
  | [], [] => 0
  | [], _ :: _ => -1
  | _ :: _, [] => 1
  | a :: x, b :: y => if a < b then -1 else if b < a then 1 else cmpL x y
theorem cmpL_lexb : ∀ (X Y : List Nat), X.length = Y.length → (decide (cmpL (ni X) (ni Y) < 0) = lexb X Y)
  | [], [], _ => by simp [ni, cmpL, lexb]
  | [], _ :: _, h => by simp at h
  | _ :: _, [], h => by simp at h
  | a :: x, b :: y, h => by
    have ih := cmpL_lexb x y (by simpa using h)
    show decide ((if (a : Int) < (b : Int) then (-1 : Int) else if (b : Int) < (a : Int) then 1 else cmpL (ni x) (ni y)) < 0) = lexb (a :: x) (b :: y)
    unfold lexb
    by_cases h1 : a < b
    · rw [if_pos (by omega)]; simp [h1]
    · rw [if_neg (by omega)]
      by_cases h2 : b < a
      · rw [if_pos (by omega)]
        have : ¬ a = b := by omega
        simp [h1, this]
      · rw [if_neg (by omega), ih]
        have : a = b := by omega
        simp [this]
theorem cmpL_at (xs ys : List Int) (k : Nat) (h1 : k < xs.length) (h2 : k < ys.length) : cmpL (xs.drop k) (ys.drop k) = if nth xs k < nth ys k then -1 else if nth ys k < nth xs k then 1 else cmpL (xs.drop (k + 1)) (ys.drop (k + 1)) := by
  rw [List.drop_eq_getElem_cons h1, List.drop_eq_getElem_cons h2, nth_get xs k h1, nth_get ys k h2]; rfl

theorem isNaN64_any (a : Int) (w : World) : Calls Try.prog 104 #[.int .i64 a] w fun e w' => e = .returned (.bool false) ∧ w = w' := by
  go_enter Try.func104, Try.ntmps104
  go_wp2
  go_ret
  exact ⟨ret_b (by simp), rfl⟩
def cmp1 (a b : Int) : Int := if a < b then -1 else if b < a then 1 else 0
theorem Compare1_any (a b : Int) (w : World) : Calls Try.prog 100 #[.int .i64 a, .int .i64 b] w fun e w' => e = .returned (.int .i64 (cmp1 a b)) ∧ w = w' := by
  have ha := isNaN64_any a w
  have hb := isNaN64_any b w
  have HC := As.mk (show cmp1 a b = if a < b then -1 else if b < a then 1 else 0 from rfl)
  by_cases h1 : a < b
  · go_enter Try.func100, Try.ntmps100
    go_wp2_with (fail)
    refine ha.mono ?_; rintro e w' ⟨rfl, rfl⟩
    go_wp2_with (fail)
    refine hb.mono ?_; rintro e w' ⟨rfl, rfl⟩
    go_wp2_with (fail)
    go_ret
    exact ⟨ret_n (by rw [HC.out, if_pos h1]), rfl⟩
  · by_cases h2 : b < a
    · go_enter Try.func100, Try.ntmps100
      go_wp2_with (fail)
      refine ha.mono ?_; rintro e w' ⟨rfl, rfl⟩
      go_wp2_with (fail)
      refine hb.mono ?_; rintro e w' ⟨rfl, rfl⟩
      go_wp2_with (fail)
      go_ret
      exact ⟨ret_n (by rw [HC.out, if_neg (by omega), if_pos h2]), rfl⟩
    · go_enter Try.func100, Try.ntmps100
      go_wp2_with (fail)
      refine ha.mono ?_; rintro e w' ⟨rfl, rfl⟩
      go_wp2_with (fail)
      refine hb.mono ?_; rintro e w' ⟨rfl, rfl⟩
      go_wp2_with (fail)
      go_ret
      exact ⟨ret_n (by rw [HC.out, if_neg (by omega), if_neg (by omega)]), rfl⟩

set_option maxHeartbeats 1000000 in
theorem Compare_any (xs ys : List Int) (hlen : xs.length = ys.length) (A A' : Option Addr) (c c' : Nat) (w : World) (h1 : Sl .i64 w A xs) (h2 : Sl .i64 w A' ys) :
    Calls Try.prog 86 #[.slice A xs.length c, .slice A' ys.length c'] w fun e w' => e = .returned (.int .i64 (cmpL xs ys)) ∧ Below w.heap.size w w' := by
  have hbig := h1.1
  obtain ⟨n, hn⟩ : ∃ n, xs.length = n := ⟨_, rfl⟩
  have HX := As.mk hn
  have HY := As.mk (show ys.length = n by rw [← hlen]; exact hn)
  rw [← hlen, hn]
  rw [hn] at hbig
  clear hn hlen
  go_enter Try.func86, Try.ntmps86
  go_wp2_with (fail)
  go_loopw [11] (fun i wr => ∃ k : Nat, k ≤ n ∧ i = .int .i64 k ∧ As (cmpL xs ys = cmpL (xs.drop k) (ys.drop k)) ∧ Below w.heap.size w wr) (fun i _ => n - (intOf i).toNat)
  case atStart => exact ⟨0, by omega, rfl, ⟨rfl⟩, Below.refl _ _⟩
  case round =>
    obtain ⟨k, hk, rfl, HE, hb⟩ := hrel
    by_cases hlt : k < n
    · have hlt' : (k : Int) < (n : Int) := by omega
      obtain ⟨b, o, rfl, hr⟩ := (h1.kept hb).2 (by rw [HX.out]; omega)
      obtain ⟨b', o', rfl, hr'⟩ := (h2.kept hb).2 (by rw [HY.out]; omega)
      have c0 : wr.cell? ⟨b, o + k, none⟩ = some (.int .i64 (nth xs k)) := hr k _ (i64s_get xs k (by rw [HX.out]; exact hlt))
      have c1 : wr.cell? ⟨b', o' + k, none⟩ = some (.int .i64 (nth ys k)) := hr' k _ (i64s_get ys k (by rw [HY.out]; exact hlt))
      have HA := As.mk (cmpL_at xs ys k (by rw [HX.out]; exact hlt) (by rw [HY.out]; exact hlt))
      have key := fun W => Compare1_any (nth xs k) (nth ys k) W
      clear hr hr'
      generalize nth xs k = x at *
      generalize nth ys k = y at *
      by_cases q1 : x < y
      · have hc : cmp1 x y = -1 := by unfold cmp1; rw [if_pos q1]
        simp only [hc] at key
        go_wp2_with (fail)
        refine (key _).mono ?_; rintro e w' ⟨rfl, rfl⟩
        go_wp2_with (fail)
        go_ret
        exact ⟨ret_n (by rw [HE.out, HA.out, if_pos q1]), hb⟩
      · by_cases q2 : y < x
        · have hc : cmp1 x y = 1 := by unfold cmp1; rw [if_neg q1, if_pos q2]
          simp only [hc] at key
          go_wp2_with (fail)
          refine (key _).mono ?_; rintro e w' ⟨rfl, rfl⟩
          go_wp2_with (fail)
          go_ret
          exact ⟨ret_n (by rw [HE.out, HA.out, if_neg (by omega), if_pos q2]), hb⟩
        · have hc : cmp1 x y = 0 := by unfold cmp1; rw [if_neg q1, if_neg q2]
          simp only [hc] at key
          go_wp2_with (fail)
          refine (key _).mono ?_; rintro e w' ⟨rfl, rfl⟩
          go_wp2_with (fail)
          go_roundw
          case rel => exact ⟨k + 1, by omega, by go_num, ⟨by rw [HE.out, HA.out, if_neg (by omega), if_neg (by omega)]⟩, hb⟩
          case measure => simp [intOf]; omega
    · obtain rfl : k = n := by omega
      have hE : cmpL xs ys = 0 := by
        rw [HE.out, List.drop_of_length_le (by rw [HX.out]; omega), List.drop_of_length_le (by rw [HY.out]; omega)]; rfl
      go_wp2_with (fail)
      go_ret
      exact ⟨ret_n hE.symm, hb⟩

/-! The map of far pairs -/
def keyV (k i : Nat) : Value := .agg #[.int .i64 (k : Int), .int .i64 (i : Int)]
theorem kL_all : ((List.range 12).all fun k => (List.range 12).all fun i => (keyOf Try.prog 72 (keyV k i)).isSome) = true := by kernel_rfl
theorem kL_some (k i : Nat) (hk : k < 12) (hi : i < 12) : ∃ l, keyOf Try.prog 72 (keyV k i) = some l := by
  have h := List.all_eq_true.1 (List.all_eq_true.1 kL_all k (List.mem_range.2 hk)) i (List.mem_range.2 hi)
  cases hq : keyOf Try.prog 72 (keyV k i) with
  | none => rw [hq] at h; cases h
  | some l => exact ⟨l, rfl⟩
theorem lawK : Maps.Keyed Try.prog 72 := Maps.Keyed.of_law (deep_law_laid (m := 2) laidOut (by omega) (of_decide_eq_true (by kernel_rfl)) (by kernel_rfl) (by kernel_rfl))
theorem kL_ne {k i k' i' : Nat} {l l' : Lit} (h1 : keyOf Try.prog 72 (keyV k i) = some l) (h2 : keyOf Try.prog 72 (keyV k' i') = some l') (h : ¬ (k' = k ∧ i' = i)) : l' ≠ l := by
  intro e
  rw [e] at h2
  have := lawK.inj h2 h1
  simp only [keyV, Value.agg.injEq] at this
  have h3 := congrArg Array.toList this
  simp at h3
  exact h ⟨by omega, by omega⟩
theorem zeroB (w : World) : (zeroValue 4).run Try.prog w = .ok (.bool false) w := by kernel_rfl
/-- block b is a map of c entries at most in which the pairs of S are told by g -/
def FarM (w : World) (b c : Nat) (g : Nat → Nat → Bool) (S : Nat → Nat → Prop) : Prop :=
  ∃ D : DataW Unit, w.ownsMap Try.prog 72 (plainElem Try.prog 4) b c D ∧ ∀ k i, S k i → k < 12 ∧ i < 12 ∧ ∀ l, keyOf Try.prog 72 (keyV k i) = some l → D.atKey l (.lit (.bool false)) = .lit (.bool (g k i))
theorem plainElem_bool_inv {P : Program} {e : TypeId} (he : P.underlying e = some .bool) {v : Value} {z : DataW Unit × List MemPlace} (h : plainElem P e v = some z) : ∃ a, v = .bool a ∧ z = (.lit (.bool a), []) := by
  unfold plainElem at h
  rw [he] at h
  cases v <;> simp at h
  subst h
  exact ⟨_, rfl, rfl⟩
theorem FarM.kept {w w' : World} {b c : Nat} {g : Nat → Nat → Bool} {S : Nat → Nat → Prop} (h : FarM w b c g S) (hb : Below w.heap.size w w') : FarM w' b c g S := by
  obtain ⟨D, h1, h2⟩ := h
  exact ⟨D, h1.kept (row := none) ⟨hb.os, hb.tape, hb.output, hb.size, fun i hi _ => hb.block i hi⟩ (by simp), h2⟩
theorem FarM.lt {w : World} {b c : Nat} {g : Nat → Nat → Bool} {S : Nat → Nat → Prop} (h : FarM w b c g S) : b < w.heap.size := by
  obtain ⟨D, h1, h2⟩ := h
  exact h1.lt
theorem FarM.wider {w : World} {b c c' : Nat} {g : Nat → Nat → Bool} {S S' : Nat → Nat → Prop} (h : FarM w b c g S) (hc : c ≤ c') (hS : ∀ k i, S' k i → S k i) : FarM w b c' g S' := by
  obtain ⟨D, h1, h2⟩ := h
  exact ⟨D, h1.mono hc, fun k i h => h2 k i (hS k i h)⟩
theorem FarM.look {w : World} {b c : Nat} {g : Nat → Nat → Bool} {S : Nat → Nat → Prop} (h : FarM w b c g S) (k i : Nat) (hS : S k i) :
    (Instr.lookup 70 (.map (some b)) (keyV k i) false).run Try.prog w = .ok (.bool (g k i)) w := by
  obtain ⟨D, h1, h2⟩ := h
  obtain ⟨hk, hi, hat⟩ := h2 k i hS
  obtain ⟨l, hl⟩ := kL_some k i hk hi
  obtain ⟨v, ps, hrun, hv⟩ := h1.lookup lawK Try.underlying70 (zeroB _) (plainElem_bool Try.underlying4 false) hl
  obtain ⟨a, rfl, hz⟩ := plainElem_bool_inv Try.underlying4 hv
  rw [hat l hl] at hz
  have : g k i = a := by simp at hz; exact hz.1
  rw [this]; exact hrun
theorem FarM.put {w : World} {b c : Nat} {g : Nat → Nat → Bool} {S : Nat → Nat → Prop} (h : FarM w b c g S) (hc : c < 1000) (k i : Nat) (hk : k < 12) (hi : i < 12) :
    ∃ w', (Instr.mapUpdate 70 (.map (some b)) (keyV k i) (.bool (g k i))).run Try.prog w = .ok () w' ∧ FarM w' b (c + 1) g (fun k' i' => S k' i' ∨ (k' = k ∧ i' = i)) ∧ w.grownBy w' (some b) := by
  obtain ⟨D, h1, h2⟩ := h
  obtain ⟨l0, hl0⟩ := kL_some k i hk hi
  obtain ⟨w', hrun, ho, hg⟩ := h1.update lawK Try.underlying70 (by simp only [maxLen]; omega) hl0 (plainElem_bool Try.underlying4 (g k i))
  refine ⟨w', hrun, ⟨_, ho, fun k' i' hS => ?_⟩, hg⟩
  by_cases e : k' = k ∧ i' = i
  · obtain ⟨rfl, rfl⟩ := e
    refine ⟨hk, hi, fun l hl => ?_⟩
    have : l0 = l := Option.some.inj (hl0.symm.trans hl)
    subst this
    exact Maps.atKey_put_same h1.isMap (lawK.key hl0) _ _
  · rcases hS with hS | hS
    · obtain ⟨a1, a2, a3⟩ := h2 k' i' hS
      exact ⟨a1, a2, fun l hl => by rw [Maps.atKey_put_other (kL_ne hl0 hl e)]; exact a3 l hl⟩
    · exact absurd hS e
theorem FarM.made (w : World) (g : Nat → Nat → Bool) : FarM (w.alloc (.map #[] 0)) w.heap.size 0 g (fun _ _ => False) := ⟨_, World.ownsMap_made _ _ _ _, fun _ _ h => h.elim⟩

theorem accN_iff (f : Nat → Nat → Bool) : ∀ (X T : List Nat), accN f T X = true ↔ ∀ n, n < X.length → ∀ k, k < (T ++ X.take n).length → f ((T ++ X.take n).getD k 0) (X.getD n 0) = true
  | [], T => by simp [accN]
  | a :: x, T => by
    unfold accN
    rw [Bool.and_eq_true, accN_iff f x (T ++ [a])]
    have hfit : fitsN f T a = true ↔ ∀ k, k < T.length → f (T.getD k 0) a = true := by
      unfold fitsN
      rw [List.all_eq_true]
      constructor
      · intro h k hk
        have := h T[k] (List.getElem_mem hk)
        simpa [List.getElem?_eq_getElem hk] using this
      · intro h y hy
        obtain ⟨k, hk, rfl⟩ := List.mem_iff_getElem.1 hy
        have := h k hk
        simpa [List.getElem?_eq_getElem hk] using this
    rw [hfit]
    constructor
    · rintro ⟨h1, h2⟩ n hn k hk
      cases n with
      | zero => simpa using h1 k (by simpa using hk)
      | succ n =>
        have := h2 n (by simpa using hn) k (by simpa [List.take_succ_cons, Nat.add_assoc, Nat.add_comm, Nat.add_left_comm] using hk)
        simpa using this
    · intro h
      refine ⟨fun k hk => ?_, fun n hn k hk => ?_⟩
      · have := h 0 (by simp) k (by simpa using hk)
        simpa using this
      · have := h (n + 1) (by simpa using hn) k (by simpa [List.take_succ_cons, Nat.add_assoc, Nat.add_comm, Nat.add_left_comm] using hk)
        simpa using this
theorem acc_true {f : Nat → Nat → Bool} {X : List Nat} (h : ∀ n, n < X.length → ∀ k, k < n → f (X.getD k 0) (X.getD n 0) = true) : accN f [] X = true := by
  rw [accN_iff]
  intro n hn k hk
  simp only [List.nil_append, List.length_take] at hk ⊢
  have : (X.take n).getD k 0 = X.getD k 0 := by
    rw [List.getD_eq_getElem?_getD, List.getD_eq_getElem?_getD, List.getElem?_take, if_pos (by omega)]
  rw [this]
  exact h n hn k (by omega)
theorem acc_false {f : Nat → Nat → Bool} {X : List Nat} {n k : Nat} (hn : n < X.length) (hk : k < n) (h : f (X.getD k 0) (X.getD n 0) = false) : accN f [] X = false := by
  cases hq : accN f [] X
  · rfl
  · rw [accN_iff] at hq
    have := hq n hn k (by simp; omega)
    have e : (([] : List Nat) ++ X.take n).getD k 0 = X.getD k 0 := by
      rw [List.nil_append, List.getD_eq_getElem?_getD, List.getD_eq_getElem?_getD, List.getElem?_take, if_pos hk]
    rw [e, h] at this
    cases this
end Go.Proofs.Ytjppoejkfpeicaa

/- Contracts for MostDistinct: whether a choice is accepted; the first one of the longest accepted lists. -/
set_option linter.unusedVariables false
set_option linter.unusedSimpArgs false
namespace Go.Proofs.Ytjppoejkfpeicaa
open Go.RowKit

theorem Own.cap' {w : World} {base : Nat} {e : TypeId} {A : Option Addr} {n c : Nat} {cs : List Value} (h : Own w base e (.slice A n c) cs) : cs.length ≤ c := by
  rcases h.form with ⟨hv, rfl⟩ | ⟨g, c', hv, _, _, _, _, _, hc⟩
  · simp
  · simp only [Value.slice.injEq] at hv; omega

set_option maxRecDepth 100000 in
set_option maxHeartbeats 2000000 in
theorem MostDistinct1_any (g : Nat → Nat → Bool) (B M m N : Nat) (X : List Nat) (hX : ∀ n k, k < n → n < X.length → X.getD k 0 < X.getD n 0 ∧ X.getD n 0 < N) (A : Option Addr) (c : Nat) (w : World) (hcap : X.length ≤ c) (hs : Sl .i64 w A (ni X))
    (hB : w.cell? ⟨B, 0, none⟩ = some (.map (some M))) (hM : FarM w M m g (fun k i => k < i ∧ i < N)) :
    Calls Try.prog 55 #[.slice A (ni X).length c, .pointer (some ⟨B, 0, none⟩)] w fun e w' => e = .returned (.bool (accN g [] X)) ∧ Below w.heap.size w w' := by
  have hbig := hs.1
  obtain ⟨z, hz⟩ : ∃ z, X.length = z := ⟨_, rfl⟩
  have HZ := As.mk hz
  rw [ni_length, hz] at hbig
  rw [ni_length, hz]
  rw [hz] at hcap
  have HX := As.mk hX
  clear hz hX
  go_enter Try.func55, Try.ntmps55
  go_wp2_with (fail)
  go_loopw [10] (fun i wr => ∃ n : Nat, n ≤ z ∧ i = .int .i64 n ∧ As (∀ n' k, k < n' → n' < n → g (X.getD k 0) (X.getD n' 0) = true) ∧ Below w.heap.size w wr) (fun i _ => z - (intOf i).toNat)
  case atStart => exact ⟨0, by omega, rfl, ⟨fun n' k h1 h2 => by omega⟩, Below.refl _ _⟩
  case round =>
    obtain ⟨n, hn, rfl, HN, hb⟩ := hrel
    by_cases hlt : n < z
    · have hlt' : (n : Int) < (z : Int) := by omega
      have hn0 : (0 : Int) ≤ (n : Int) := by omega
      have hnc : (n : Int) ≤ (c : Int) := by omega
      have hnc' : n ≤ c := by omega
      obtain ⟨b, o, hA, hr⟩ := hs.2 (by rw [ni_length, HZ.out]; omega)
      have c0 : wr.cell? ⟨b, o + n, none⟩ = some (.int .i64 ((X.getD n 0 : Nat) : Int)) := by
        have := hr n _ (i64s_get (ni X) n (by rw [ni_length, HZ.out]; exact hlt))
        rw [ni_nth X n (by rw [HZ.out]; exact hlt)] at this
        rw [hb.cell (World.block_lt_of_cell? w _ this)]; exact this
      subst hA
      have hr' := As.mk hr
      obtain ⟨xn, hxn⟩ : ∃ xn, X.getD n 0 = xn := ⟨_, rfl⟩
      rw [hxn] at c0
      have HXN := As.mk hxn
      clear hr hxn
      go_wp2_with (fail)
      go_loopw [19] (fun j wr => ∃ k : Nat, k ≤ n ∧ j = .int .i64 k ∧ As (∀ k', k' < k → g (X.getD k' 0) (X.getD n 0) = true) ∧ Below w.heap.size w wr) (fun j _ => n - (intOf j).toNat)
      case atStart => exact ⟨0, by omega, rfl, ⟨fun k' h => by omega⟩, hb⟩
      case round =>
        obtain ⟨k, hk, rfl, HK, hb⟩ := hrel
        by_cases hkn : k < n
        · have hkn' : (k : Int) < (n : Int) := by omega
          have d0 : wr.cell? ⟨b, o + k, none⟩ = some (.int .i64 ((X.getD k 0 : Nat) : Int)) := by
            have := hr'.out k _ (i64s_get (ni X) k (by rw [ni_length, HZ.out]; omega))
            rw [ni_nth X k (by rw [HZ.out]; omega)] at this
            rw [hb.cell (World.block_lt_of_cell? w _ this)]; exact this
          have b0 : wr.cell? ⟨B, 0, none⟩ = some (.map (some M)) := by
            rw [hb.cell (World.block_lt_of_cell? w _ hB)]; exact hB
          have hlk := (hM.kept hb).look (X.getD k 0) (X.getD n 0) (HX.out n k hkn (by rw [HZ.out]; exact hlt))
          unfold keyV at hlk
          generalize hgv : g (X.getD k 0) (X.getD n 0) = gv at hlk
          have HGV := As.mk hgv
          rw [HXN.out] at hlk
          generalize X.getD k 0 = xk at hlk d0
          clear hgv
          cases gv with
          | true =>
            go_wp2_with (fail)
            go_roundw
            case rel => exact ⟨k + 1, by omega, by go_num, ⟨fun k' hk' => by
              by_cases e : k' = k
              · subst e; exact HGV.out
              · exact HK.out k' (by omega)⟩, hb⟩
            case measure => simp [intOf]; omega
          | false =>
            go_wp2_with (fail)
            go_ret
            exact ⟨ret_b (acc_false (by rw [HZ.out]; exact hlt) hkn HGV.out).symm, hb⟩
        · obtain rfl : k = n := by omega
          go_wp2_with (fail)
          go_roundw
          case rel => exact ⟨k + 1, by omega, by go_num, ⟨fun n' k' h1 h2 => by
              by_cases e : n' = k
              · subst e; exact HK.out k' h1
              · exact HN.out n' k' h1 (by omega)⟩, hb⟩
          case measure => simp [intOf]; omega
    · obtain rfl : n = z := by omega
      go_wp2_with (fail)
      go_ret
      exact ⟨ret_b (acc_true (fun n' h1 k h2 => HN.out n' k h2 (by rw [← HZ.out]; exact h1))).symm, hb⟩
end Go.Proofs.Ytjppoejkfpeicaa

/- Contracts for MostDistinct: the first one of the longest accepted lists. -/
set_option linter.unusedVariables false
set_option linter.unusedSimpArgs false
namespace Go.Proofs.Ytjppoejkfpeicaa
open Go.RowKit

theorem twelve (n : Nat) (h : n ≤ 12) : n = 0 ∨ n = 1 ∨ n = 2 ∨ n = 3 ∨ n = 4 ∨ n = 5 ∨ n = 6 ∨ n = 7 ∨ n = 8 ∨ n = 9 ∨ n = 10 ∨ n = 11 ∨ n = 12 := by omega
theorem two_pow_le (n : Nat) (hn : n ≤ 12) : 1 ≤ 2 ^ n ∧ 2 ^ n ≤ 4096 := by
  rcases twelve n hn with rfl | rfl | rfl | rfl | rfl | rfl | rfl | rfl | rfl | rfl | rfl | rfl | rfl <;> decide
theorem shl_wrap (n : Nat) (hn : n ≤ 12) : wrap64 ((2 : Int) ^ n) = ((2 ^ n : Nat) : Int) := by
  have h := two_pow_le n hn
  have e : ((2 : Int) ^ n) = ((2 ^ n : Nat) : Int) := by push_cast; rfl
  rw [e]
  exact IntWalk.wrap64_in _ ⟨by omega, by omega⟩
theorem bit_run (s i : Nat) (hs : s ≤ 4096) (hi : i < 12) : bits .and .i64 ((s : Int) / 2 ^ i) 1 = if s.testBit i then 1 else 0 := by
  have hb : s.testBit i = decide (s / 2 ^ i % 2 = 1) := Nat.testBit_eq_decide_div_mod_eq
  have hq : s / 2 ^ i ≤ 4096 := Nat.le_trans (Nat.div_le_self _ _) hs
  have e0 : (s : Int) / 2 ^ i = ((s / 2 ^ i : Nat) : Int) := by push_cast; rfl
  rw [e0, hb]
  generalize s / 2 ^ i = q at *
  unfold bits
  have e3 : (BitVec.ofInt IntKind.i64.bits (q : Int) &&& BitVec.ofInt IntKind.i64.bits 1).toNat = q % 2 := by
    rw [BitVec.toNat_and]
    have a1 : (BitVec.ofInt IntKind.i64.bits (q : Int)).toNat = q := by
      simp [BitVec.toNat_ofInt, IntKind.bits]; omega
    have a2 : (BitVec.ofInt IntKind.i64.bits 1).toNat = 1 := by decide
    rw [a1, a2, Nat.and_one_is_mod]
  simp only [e3]
  rcases Nat.mod_two_eq_zero_or_one q with h | h <;> rw [h] <;> decide
theorem ownN_hit {k s : Nat} (h : s.testBit k = true) : ownN (k + 1) s = ownN k s ++ [k] := by
  unfold ownN; rw [List.range_succ, List.filter_append]; simp [h]
theorem ownN_miss {k s : Nat} (h : s.testBit k = false) : ownN (k + 1) s = ownN k s := by
  unfold ownN; rw [List.range_succ, List.filter_append]; simp [h]
theorem ownN_length (k s : Nat) : (ownN k s).length ≤ k := by
  unfold ownN
  exact Nat.le_trans (List.length_filter_le _ _) (by simp)
theorem bestN_length (f : Nat → Nat → Bool) (n : Nat) : ∀ s, (bestN f n s).length ≤ n
  | 0 => by simp [bestN]
  | s + 1 => by
    unfold bestN
    split
    · exact ownN_length _ _
    · exact bestN_length f n s
theorem best_succ (f : Nat → Nat → Bool) (n s : Nat) : bestN f n (s + 1) = if (betterN (ownN n s) (bestN f n s) && accN f [] (ownN n s)) then ownN n s else bestN f n s := rfl
theorem best_take {f : Nat → Nat → Bool} {n s : Nat} (h1 : betterN (ownN n s) (bestN f n s) = true) (h2 : accN f [] (ownN n s) = true) : bestN f n (s + 1) = ownN n s := by rw [best_succ, h1, h2]; rfl
theorem best_leave1 {f : Nat → Nat → Bool} {n s : Nat} (h1 : betterN (ownN n s) (bestN f n s) = false) : bestN f n (s + 1) = bestN f n s := by rw [best_succ, h1]; rfl
theorem best_leave2 {f : Nat → Nat → Bool} {n s : Nat} (h2 : accN f [] (ownN n s) = false) : bestN f n (s + 1) = bestN f n s := by rw [best_succ, h2, Bool.and_false]; rfl

set_option maxRecDepth 100000 in
set_option maxHeartbeats 2000000 in
theorem longest_any (f : Nat → Nat → Bool) (N : Nat) (hN : N ≤ 12) (gf : Nat) (lb : Array Value) (eg : ∀ args w, (callFunc gf args).run Try.prog w = .ok (.enter gf args) w) (w : World)
    (hacc : ∀ (W : World) (A : Option Addr) (c s : Nat), (ownN N s).length ≤ c → Below w.heap.size w W → Sl .i64 W A (ni (ownN N s)) → Calls Try.prog gf (#[.slice A (ni (ownN N s)).length c] ++ lb) W fun e w' => e = .returned (.bool (accN f [] (ownN N s))) ∧ Below W.heap.size W w') :
    Calls Try.prog 54 #[.int .i64 (N : Int), .func (.func gf) #[] lb] w fun e w' => (∃ v, e = .returned v ∧ Own w' w.heap.size 2 v (i64s (ni (bestN f N (2 ^ N))))) ∧ Below w.heap.size w w' := by
  have hpw := shl_wrap N hN
  obtain ⟨hp1, hp2⟩ := two_pow_le N hN
  generalize 2 ^ N = p at *
  have hacc' := As.mk hacc
  clear hacc
  go_enter Try.func54, Try.ntmps54
  go_wp2_with (fail)
  simp only [hpw]
  clear hpw
  go_loopw [5, 12] (fun v i wr => ∃ s : Nat, s ≤ p ∧ i = .int .i64 s ∧ Own wr w.heap.size 2 v (i64s (ni (bestN f N s))) ∧ Below w.heap.size w wr) (fun _ i _ => p - (intOf i).toNat)
  case atStart => exact ⟨0, by omega, rfl, Own.lit w w.heap.size 2 [] (Nat.le_refl _) (by simp), bl_new (Below.refl _ _) _⟩
  case round =>
    obtain ⟨s, hs, rfl, hO, hb⟩ := hrel
    by_cases hlt : s < p
    · have hlt' : (s : Int) < (p : Int) := by omega
      have hws := hb.size
      obtain ⟨wo, rfl⟩ : ∃ x, x = wr := ⟨_, rfl⟩
      go_wp2_with (fail)
      go_loopw [7, 17] (fun v i wi => ∃ k : Nat, k ≤ N ∧ i = .int .i64 k ∧ Own wi wo.heap.size 2 v (i64s (ni (ownN k s))) ∧ Below wo.heap.size wo wi) (fun _ i _ => N - (intOf i).toNat)
      case atStart => exact ⟨0, by omega, rfl, Own.lit wo wo.heap.size 2 [] (Nat.le_refl _) (by simp), bl_new (Below.refl _ _) _⟩
      case round =>
        obtain ⟨k, hk, rfl, hO7, hb7⟩ := hrel
        by_cases hkN : k < N
        · have hkN' : (k : Int) < (N : Int) := by omega
          have had := bit_run s k (by omega) (by omega)
          have hk0 : (0 : Int) ≤ (k : Int) := by omega
          have hol := ownN_length k s
          cases hbit : s.testBit k with
          | true =>
            have hst := As.mk (ownN_hit hbit)
            rw [hbit, if_pos rfl] at had
            clear hbit
            go_wp2_with (at_builtin; refine app1 (w0 := wo) (wo.heap.size) rfl (.tmp 25) (.tmp 27) 24 2 (.int .i64 0) 8 rfl Try.underlying24 info_i64 rfl (by omega) (u7) (i64s (ni (ownN k s))) (.int .i64 (k : Int)) rfl rfl rfl hO7 hb7 hb7.size (by rw [i64s_length, ni_length]; omega) ?_)
            intro v4 w4 hO4 hb4 _ _
            rw [i64_snoc, ni_snoc] at hO4
            go_wp2_with (fail)
            clear had
            go_roundw
            case rel => exact ⟨k + 1, by omega, by go_num, by rw [hst.out]; exact hO4, hb4⟩
            case measure => simp [intOf]; omega
          | false =>
            have hst := As.mk (ownN_miss hbit)
            rw [hbit, if_neg (by simp)] at had
            clear hbit
            go_wp2_with (fail)
            clear had
            go_roundw
            case rel => exact ⟨k + 1, by omega, by go_num, by rw [hst.out]; exact hO7, hb7⟩
            case measure => simp [intOf]; omega
        · obtain rfl : k = N := by omega
          have hOb := hO.kept hb7
          have hba := bl_call hb hb7
          have hOw := hO7.lower hws
          obtain ⟨A1, c1, rfl, S1⟩ := hO7.sl
          obtain ⟨A2, c2, rfl, S2⟩ := hOb.sl
          have hc1 := hO7.cap'
          rw [i64s_length, ni_length] at hc1
          have kacc := hacc'.out wr A1 c1 s hc1 hba S1
          have kcmp := fun hl => Compare_any (ni (ownN k s)) (ni (bestN f k s)) hl A1 A2 c1 c2 wr S1 S2
          have l1 := ownN_length k s
          have l2 := bestN_length f k s
          have HB := As.mk (show betterN (ownN k s) (bestN f k s) = (decide ((bestN f k s).length < (ownN k s).length) || (decide ((ownN k s).length = (bestN f k s).length) && lexb (ownN k s) (bestN f k s))) from rfl)
          have HL := As.mk (cmpL_lexb (ownN k s) (bestN f k s))
          have T1 := fun h1 h2 => As.mk (best_take (f := f) (n := k) (s := s) h1 h2)
          have T2 := fun h1 => As.mk (best_leave1 (f := f) (n := k) (s := s) h1)
          have T3 := fun h1 => As.mk (best_leave2 (f := f) (n := k) (s := s) h1)
          have T1 := As.mk T1
          have T2 := As.mk T2
          have T3 := As.mk T3
          have hl1 := As.mk (ni_length (ownN k s))
          have hl2 := As.mk (ni_length (bestN f k s))
          obtain ⟨L1, hL1⟩ : ∃ L, (ni (ownN k s)).length = L := ⟨_, rfl⟩
          obtain ⟨L2, hL2⟩ : ∃ L, (ni (bestN f k s)).length = L := ⟨_, rfl⟩
          rw [hL1] at kacc kcmp hOw hl1 ⊢
          rw [hL2] at kcmp hOb hl2 ⊢
          have hO7 := As.mk hO7
          have hO := As.mk hO
          have S1' := As.mk S1
          have HC1 := As.mk hc1
          have HL1 := As.mk hL1
          clear hL1 hL2 S1 S2 hc1
          rw [← hl1.out] at l1
          rw [← hl2.out] at l2
          by_cases hgt : L2 < L1
          · have hgt' : (L2 : Int) < (L1 : Int) := by omega
            have hbt := As.mk (show betterN (ownN k s) (bestN f k s) = true by rw [HB.out, ← hl1.out, ← hl2.out]; simp [hgt])
            cases hacb : accN f [] (ownN k s) with
            | true =>
              rw [hacb] at kacc
              have hT := As.mk (T1.out hbt.out hacb).out
              clear hacb
              go_wp2_with (fail)
              refine kacc.mono ?_; rintro e w' ⟨rfl, hb'⟩
              go_wp2_with (fail)
              go_roundw
              case rel => exact ⟨s + 1, by omega, by go_num, by rw [hT.out]; exact hOw.kept hb', bl_call hba hb'⟩
              case measure => simp [intOf]; omega
            | false =>
              rw [hacb] at kacc
              have hT := As.mk (T3.out hacb).out
              clear hacb
              go_wp2_with (fail)
              refine kacc.mono ?_; rintro e w' ⟨rfl, hb'⟩
              go_wp2_with (fail)
              go_roundw
              case rel => exact ⟨s + 1, by omega, by go_num, by rw [hT.out]; exact hOb.kept hb', bl_call hba hb'⟩
              case measure => simp [intOf]; omega
          · by_cases heq : L1 = L2
            · have hng : ¬ ((L2 : Int) < (L1 : Int)) := by omega
              subst heq
              have kc := kcmp rfl
              have hlx := As.mk (HL.out (by rw [← hl1.out, ← hl2.out]))
              generalize cmpL (ni (ownN k s)) (ni (bestN f k s)) = cv at *
              by_cases hcv : cv < 0
              · have hbt := As.mk (show betterN (ownN k s) (bestN f k s) = true by rw [HB.out, ← hlx.out, ← hl1.out, ← hl2.out]; simp [hcv])
                have hcv' : decide (cv < 0) = true := by simp [hcv]
                clear kacc
                go_wp2_with (fail)
                refine kc.mono ?_; rintro e w' ⟨rfl, hb'⟩
                have kacc := hacc'.out w' A1 c1 s HC1.out (bl_call hba hb') (S1'.out.kept hb')
                rw [HL1.out] at kacc
                cases hacb : accN f [] (ownN k s) with
                | true =>
                  rw [hacb] at kacc
                  have hT := As.mk (T1.out hbt.out hacb).out
                  clear hacb
                  go_wp2_with (fail)
                  refine kacc.mono ?_; rintro e w2 ⟨rfl, hb2⟩
                  go_wp2_with (fail)
                  go_roundw
                  case rel => exact ⟨s + 1, by omega, by go_num, by rw [hT.out]; exact (hOw.kept hb').kept hb2, bl_call (bl_call hba hb') hb2⟩
                  case measure => simp [intOf]; omega
                | false =>
                  rw [hacb] at kacc
                  have hT := As.mk (T3.out hacb).out
                  clear hacb
                  go_wp2_with (fail)
                  refine kacc.mono ?_; rintro e w2 ⟨rfl, hb2⟩
                  go_wp2_with (fail)
                  go_roundw
                  case rel => exact ⟨s + 1, by omega, by go_num, by rw [hT.out]; exact (hOb.kept hb').kept hb2, bl_call (bl_call hba hb') hb2⟩
                  case measure => simp [intOf]; omega
              · have hbt := As.mk (show betterN (ownN k s) (bestN f k s) = false by rw [HB.out, ← hlx.out, ← hl1.out, ← hl2.out]; simp [hcv])
                have hT := As.mk (T2.out hbt.out).out
                clear kacc
                go_wp2_with (fail)
                refine kc.mono ?_; rintro e w' ⟨rfl, hb'⟩
                go_wp2_with (fail)
                go_roundw
                case rel => exact ⟨s + 1, by omega, by go_num, by rw [hT.out]; exact hOb.kept hb', bl_call hba hb'⟩
                case measure => simp [intOf]; omega
            · have hng : ¬ ((L2 : Int) < (L1 : Int)) := by omega
              have hne : ¬ ((L1 : Int) = (L2 : Int)) := by omega
              have hbt := As.mk (show betterN (ownN k s) (bestN f k s) = false by rw [HB.out, ← hl1.out, ← hl2.out]; simp [hgt, heq])
              have hT := As.mk (T2.out hbt.out).out
              go_wp2_with (fail)
              go_roundw
              case rel => exact ⟨s + 1, by omega, by go_num, by rw [hT.out]; exact hOb, hba⟩
              case measure => simp [intOf]; omega
    · obtain rfl : s = p := by omega
      go_wp2_with (fail)
      go_ret
      exact ⟨⟨_, rfl, hO⟩, hb⟩
end Go.Proofs.Ytjppoejkfpeicaa

/- Contracts: colours of a list; patterns. -/
set_option linter.unusedVariables false
namespace Go.Proofs.Ytjppoejkfpeicaa
open Go.RowKit

set_option maxHeartbeats 400000 in
theorem IndexFunc_i64 (g : Nat) (lb : Array Value) (eg : ∀ args w, (callFunc g args).run Try.prog w = .ok (.enter g args) w) (xs : List Int) (p : Nat → Bool) (b o c : Nat) (w : World)
    (hp : Pred g lb (fun k => .int .i64 (nth xs k)) xs.length p w) (hbig : xs.length ≤ 9223372036854775807) (hr : w.rangeAt b o (i64s xs)) :
    Calls Try.prog 83 #[.slice (some ⟨b, o, none⟩) xs.length c, .func (.func g) #[] lb] w fun e w' => e = .returned (.int .i64 (firstIdx p xs.length 0)) ∧ Below w.heap.size w w' := by
  go_enter Try.func83, Try.ntmps83
  go_wp2
  go_loopw [5, 8] (fun _ i wr => ∃ k : Nat, k ≤ xs.length ∧ i = .int .i64 k ∧ Below w.heap.size w wr ∧ As (∀ j, j < k → p j = false)) (fun _ i _ => xs.length - (intOf i).toNat)
  case atStart => exact ⟨0, by omega, rfl, Below.refl _ _, ⟨fun j hj => by omega⟩⟩
  case round =>
    obtain ⟨k, hk, rfl, hb, H⟩ := hrel
    by_cases hlt : k < xs.length
    · have c0 : wr.cell? ⟨b, o + k, none⟩ = some (.int .i64 (nth xs k)) := by
        have h0 := hr k _ (by rw [i64s_get xs k hlt])
        rw [hb.cell (World.block_lt_of_cell? w _ h0)]; exact h0
      have hcall := hp wr k hlt hb
      cases hq : p k with
      | true =>
        rw [hq] at hcall
        go_wp2_with (refine hcall.mono ?_; rintro e w' ⟨rfl, hb'⟩)
        go_ret
        exact ⟨ret_n (by rw [firstIdx_hit p xs.length 0 k hlt (by simpa using H.out) (by simpa using hq)]; simp), bl_call hb hb'⟩
      | false =>
        rw [hq] at hcall
        go_wp2_with (refine hcall.mono ?_; rintro e w' ⟨rfl, hb'⟩)
        go_roundw
        case rel => exact ⟨k + 1, by omega, by go_num, bl_call hb hb', ⟨all_succ H.out hq⟩⟩
        case measure => simp [intOf]; omega
    · obtain rfl : k = xs.length := by omega
      go_wp2
      go_ret
      exact ⟨ret_n (by rw [firstIdx_miss p xs.length 0 (by simpa using H.out)]), hb⟩

theorem ContainsFunc_i64 (g : Nat) (lb : Array Value) (eg : ∀ args w, (callFunc g args).run Try.prog w = .ok (.enter g args) w) (xs : List Int) (p : Nat → Bool) (b o c : Nat) (w : World)
    (hp : Pred g lb (fun k => .int .i64 (nth xs k)) xs.length p w) (hbig : xs.length ≤ 9223372036854775807) (hr : w.rangeAt b o (i64s xs)) :
    Calls Try.prog 46 #[.slice (some ⟨b, o, none⟩) xs.length c, .func (.func g) #[] lb] w fun e w' => e = .returned (.bool (anyBelow p xs.length)) ∧ Below w.heap.size w w' := by
  rw [← firstIdx_nonneg]
  go_enter Try.func46, Try.ntmps46
  go_wp2_with (go_at_call 83; refine (IndexFunc_i64 g lb eg xs p b o c _ hp hbig hr).mono ?_; rintro e w' ⟨rfl, hb⟩)
  go_ret
  exact ⟨rfl, hb⟩


theorem areColours1_any (n : Int) (w : World) : Calls Try.prog 101 #[.int .i64 n] w fun e w' => e = .returned (.bool (!inR n 0 5)) ∧ Below w.heap.size w w' := by
  go_enter Try.func101, Try.ntmps101
  go_wp2_with (go_at_call 72; refine (isColour_any _ _).mono ?_; rintro e w' ⟨rfl, rfl⟩)
  go_ret
  exact ⟨rfl, Below.refl _ _⟩

/-- All numbers are colours. -/
def aC (xs : List Int) : Bool := xs.all fun x => inR x 0 5
theorem any_aC (xs : List Int) : (!anyBelow (fun k => !inR (nth xs k) 0 5) xs.length) = aC xs := by
  unfold anyBelow aC
  rw [Bool.eq_iff_iff]
  simp only [Bool.not_eq_true', List.any_eq_false, List.all_eq_true, List.mem_range]
  constructor
  · intro h x hx
    obtain ⟨i, hi, rfl⟩ := List.mem_iff_getElem.1 hx
    rw [nth_get xs i hi]
    simpa using h i hi
  · intro h i hi
    simpa using h _ (nth_mem xs i hi)
theorem areColours_any (xs : List Int) (b o c : Nat) (w : World) (hbig : xs.length ≤ 9223372036854775807) (hr : w.rangeAt b o (i64s xs)) :
    Calls Try.prog 88 #[.slice (some ⟨b, o, none⟩) xs.length c] w fun e w' => e = .returned (.bool (aC xs)) ∧ Below w.heap.size w w' := by
  rw [← any_aC xs]
  have hcf := fun W c h => ContainsFunc_i64 101 #[] (enters Try.func101 (by kernel_rfl) rfl) xs (fun k => !inR (nth xs k) 0 5) b o c W (fun W k _ _ => areColours1_any _ W) hbig h
  go_enter Try.func88, Try.ntmps88
  go_wp2_with (go_at_call 46; refine (hcf _ _ hr).mono ?_; rintro e w' ⟨rfl, hb⟩)
  go_ret
  exact ⟨rfl, hb⟩

/-- The code of numbers in bounds: 0, or 2. -/
def codeR (b : Bool) : Int := if b then 0 else 2
set_option maxHeartbeats 400000 in
/-- impl.pattern over any closure. -/
theorem pattern_any (g : Nat) (lb : Array Value) (eg : ∀ args w, (callFunc g args).run Try.prog w = .ok (.enter g args) w) (f : Nat → Int) (xs : List Int) (b o c : Nat) (w : World) (hbig : xs.length ≤ 9223372036854775807) (hr : w.rangeAt b o (i64s xs))
    (hf : aC xs = true → ∀ i, i < 24 → 0 ≤ f i ∧ f i ≤ 255)
    (hp : aC xs = true → ∀ (W : World) (k : Nat), k < 24 → Below w.heap.size w W → Calls Try.prog g (#[.int .i64 ((k : Int) % 6), .int .i64 ((k : Int) / 6)] ++ lb) W fun e w' => e = .returned (.int .i64 (f k)) ∧ Below W.heap.size W w') :
    Calls Try.prog 58 #[.slice (some ⟨b, o, none⟩) xs.length c, .func (.func g) #[] lb] w fun e w' => e = .returned (.tuple #[fl (okF (aC xs) ((List.range 24).map f)), .int .i64 (codeR (aC xs))]) ∧ Below w.heap.size w w' := by
  have B1 : Blk (w.alloc (.cells #[.int .u8 0, .int .u8 0, .int .u8 0, .int .u8 0, .int .u8 0, .int .u8 0, .int .u8 0, .int .u8 0, .int .u8 0, .int .u8 0, .int .u8 0, .int .u8 0, .int .u8 0, .int .u8 0, .int .u8 0, .int .u8 0, .int .u8 0, .int .u8 0, .int .u8 0, .int .u8 0, .int .u8 0, .int .u8 0, .int .u8 0, .int .u8 0] 38)) w.heap.size (u8s zero24) 38 := Blk.mk _ (u8s zero24) _ rfl
  have b0 : Below w.heap.size w (w.alloc (.cells #[.int .u8 0, .int .u8 0, .int .u8 0, .int .u8 0, .int .u8 0, .int .u8 0, .int .u8 0, .int .u8 0, .int .u8 0, .int .u8 0, .int .u8 0, .int .u8 0, .int .u8 0, .int .u8 0, .int .u8 0, .int .u8 0, .int .u8 0, .int .u8 0, .int .u8 0, .int .u8 0, .int .u8 0, .int .u8 0, .int .u8 0, .int .u8 0] 38)) := bl_new (Below.refl _ _) _
  have hr' : (w.alloc (.cells #[.int .u8 0, .int .u8 0, .int .u8 0, .int .u8 0, .int .u8 0, .int .u8 0, .int .u8 0, .int .u8 0, .int .u8 0, .int .u8 0, .int .u8 0, .int .u8 0, .int .u8 0, .int .u8 0, .int .u8 0, .int .u8 0, .int .u8 0, .int .u8 0, .int .u8 0, .int .u8 0, .int .u8 0, .int .u8 0, .int .u8 0, .int .u8 0] 38)).rangeAt b o (i64s xs) := range_kept hr b0
  have hl : ((List.range 24).map f).length = 24 := by simp
  cases h1 : aC xs
  · go_enter Try.func58, Try.ntmps58
    go_wp2_with (fail)
    refine (areColours_any xs b o c _ hbig hr').mono ?_; rintro e w1 ⟨rfl, hb1⟩
    have h2 := B1.kept hb1
    go_wp2_with (refine store_blk rfl 38 _ _ rfl _ rfl (ds := u8s zero24) rfl h2 info_fl (by rfl) (by rfl) (u8s_one _) ?_)
    refine ret_blk_tmp rfl _ rfl (h2.setRow _) Try.underlying38 rfl info_fl (by rfl) rfl ⟨rfl, bl_setRow (bl_call b0 hb1) (by omega) _⟩
  · have hF := fun (W : World) (hB : Below w.heap.size w W) => flagOf_any g lb eg f (hf h1) W (fun W' k hk hb => hp h1 W' k hk (bl_call hB hb))
    go_enter Try.func58, Try.ntmps58
    go_wp2_with (fail)
    refine (areColours_any xs b o c _ hbig hr').mono ?_; rintro e w1 ⟨rfl, hb1⟩
    go_wp2_with (fail)
    refine (hF _ (bl_call b0 hb1)).mono ?_; rintro e w2 ⟨rfl, hb2⟩
    have h2 := (B1.kept hb1).kept hb2
    clear hF hp
    unfold fl
    go_wp2_with (refine store_blk rfl 38 _ _ rfl _ rfl rfl h2 info_fl (by rw [u8s_length]; exact hl) (by rw [u8s_length]; exact zero24_length) (u8s_one _) ?_)
    refine ret_blk_tmp rfl _ rfl (h2.setRow _) Try.underlying38 rfl info_fl (by rw [u8s_length]; exact hl) rfl ⟨rfl, bl_setRow (bl_call (bl_call b0 hb1) hb2) (by omega) _⟩

theorem either_any (is : Bool) (a b : Int) (w : World) : Calls Try.prog 60 #[.bool is, .int .i64 a, .int .i64 b] w fun e w' => e = .returned (.int .i64 (if is then a else b)) ∧ w = w' := by
  cases is
  all_goals
    go_enter Try.func60, Try.ntmps60
    go_wp2
    go_ret
    exact ⟨rfl, rfl⟩

/-- Where a pattern of a kind shows its second colour. -/
def other : Nat → Nat → Nat → Bool
  | 0, x, y => x == 2 || x == 3 || y == 1 || y == 2
  | 1, x, y => x == 0 || x == 5 || y == 0 || y == 3
  | 2, x, y => (x + y) % 2 == 1
  | _, _, _ => false
def madeF (kind : Nat) (a b : Int) (k : Nat) : Int := if other kind (k % 6) (k / 6) then b else a
def madeL (kind : Nat) (a b : Int) : List Int := (List.range 24).map (madeF kind a b)
theorem madeL_length (kind : Nat) (a b : Int) : (madeL kind a b).length = 24 := by simp [madeL]
theorem made_bd (kind : Nat) (a b : Int) (h : aC [a, b] = true) (k : Nat) : 0 ≤ madeF kind a b k ∧ madeF kind a b k ≤ 255 := by
  simp only [aC, List.all_cons, List.all_nil, Bool.and_true, Bool.and_eq_true, inR_iff] at h
  unfold madeF; split <;> omega

end Go.Proofs.Ytjppoejkfpeicaa
