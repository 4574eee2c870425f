/- Contracts for MostDistinct: lists of numbers compared; the map of far pairs; whether a choice is accepted. -/
import Derived.Test.YtjppoejkfpeicaaG27
import Derived.Test.YtjppoejkfpeicaaMp
import Derived.Test.YtjppoejkfpeicaaRow
import Derived.Maps.OwnSet
import Derived.DeepKeys4
set_option linter.unusedVariables false
set_option linter.unusedSimpArgs false
namespace Go.Proofs.Ytjppoejkfpeicaa
open Go.RowKit

def ni (X : List Nat) : List Int := X.map (fun k : Nat => (k : Int))
theorem ni_length (X : List Nat) : (ni X).length = X.length := by simp [ni]
theorem ni_snoc (X : List Nat) (k : Nat) : ni X ++ [(k : Int)] = ni (X ++ [k]) := by simp [ni]
theorem ni_nth (X : List Nat) (k : Nat) (h : k < X.length) : nth (ni X) k = ((X.getD k 0 : Nat) : Int) := by
  simp [nth, ni, List.getElem?_eq_getElem h]
def cmpL : List Int → List Int → Int
  | [], [] => 0
  | [], _ :: _ => -1
  | _ :: _, [] => 1
  | a :: x, b :: y => if a < b then -1 else if b < a then 1 else cmpL x y
theorem cmpL_lexb : ∀ (X Y : List Nat), X.length = Y.length → (decide (cmpL (ni X) (ni Y) < 0) = lexb X Y)
  | [], [], _ => by simp [ni, cmpL, lexb]
  | [], _ :: _, h => by simp at h
  | _ :: _, [], h => by simp at h
  | a :: x, b :: y, h => by
    have ih := cmpL_lexb x y (by simpa using h)
    show decide ((if (a : Int) < (b : Int) then (-1 : Int) else if (b : Int) < (a : Int) then 1 else cmpL (ni x) (ni y)) < 0) = lexb (a :: x) (b :: y)
    unfold lexb
    by_cases h1 : a < b
    · rw [if_pos (by omega)]; simp [h1]
    · rw [if_neg (by omega)]
      by_cases h2 : b < a
      · rw [if_pos (by omega)]
        have : ¬ a = b := by omega
        simp [h1, this]
      · rw [if_neg (by omega), ih]
        have : a = b := by omega
        simp [this]
theorem cmpL_at (xs ys : List Int) (k : Nat) (h1 : k < xs.length) (h2 : k < ys.length) : cmpL (xs.drop k) (ys.drop k) = if nth xs k < nth ys k then -1 else if nth ys k < nth xs k then 1 else cmpL (xs.drop (k + 1)) (ys.drop (k + 1)) := by
  rw [List.drop_eq_getElem_cons h1, List.drop_eq_getElem_cons h2, nth_get xs k h1, nth_get ys k h2]; rfl

theorem isNaN64_any (a : Int) (w : World) : Calls Try.prog 104 #[.int .i64 a] w fun e w' => e = .returned (.bool false) ∧ w = w' := by
  go_enter Try.func104, Try.ntmps104
  go_wp2
  go_ret
  exact ⟨ret_b (by simp), rfl⟩
def cmp1 (a b : Int) : Int := if a < b then -1 else if b < a then 1 else 0
theorem Compare1_any (a b : Int) (w : World) : Calls Try.prog 100 #[.int .i64 a, .int .i64 b] w fun e w' => e = .returned (.int .i64 (cmp1 a b)) ∧ w = w' := by
  have ha := isNaN64_any a w
  have hb := isNaN64_any b w
  have HC := As.mk (show cmp1 a b = if a < b then -1 else if b < a then 1 else 0 from rfl)
  by_cases h1 : a < b
  · go_enter Try.func100, Try.ntmps100
    go_wp2_with (fail)
    refine ha.mono ?_; rintro e w' ⟨rfl, rfl⟩
    go_wp2_with (fail)
    refine hb.mono ?_; rintro e w' ⟨rfl, rfl⟩
    go_wp2_with (fail)
    go_ret
    exact ⟨ret_n (by rw [HC.out, if_pos h1]), rfl⟩
  · by_cases h2 : b < a
    · go_enter Try.func100, Try.ntmps100
      go_wp2_with (fail)
      refine ha.mono ?_; rintro e w' ⟨rfl, rfl⟩
      go_wp2_with (fail)
      refine hb.mono ?_; rintro e w' ⟨rfl, rfl⟩
      go_wp2_with (fail)
      go_ret
      exact ⟨ret_n (by rw [HC.out, if_neg (by omega), if_pos h2]), rfl⟩
    · go_enter Try.func100, Try.ntmps100
      go_wp2_with (fail)
      refine ha.mono ?_; rintro e w' ⟨rfl, rfl⟩
      go_wp2_with (fail)
      refine hb.mono ?_; rintro e w' ⟨rfl, rfl⟩
      go_wp2_with (fail)
      go_ret
      exact ⟨ret_n (by rw [HC.out, if_neg (by omega), if_neg (by omega)]), rfl⟩

set_option maxHeartbeats 1000000 in
theorem Compare_any (xs ys : List Int) (hlen : xs.length = ys.length) (A A' : Option Addr) (c c' : Nat) (w : World) (h1 : Sl .i64 w A xs) (h2 : Sl .i64 w A' ys) :
    Calls Try.prog 86 #[.slice A xs.length c, .slice A' ys.length c'] w fun e w' => e = .returned (.int .i64 (cmpL xs ys)) ∧ Below w.heap.size w w' := by
  have hbig := h1.1
  obtain ⟨n, hn⟩ : ∃ n, xs.length = n := ⟨_, rfl⟩
  have HX := As.mk hn
  have HY := As.mk (show ys.length = n by rw [← hlen]; exact hn)
  rw [← hlen, hn]
  rw [hn] at hbig
  clear hn hlen
  go_enter Try.func86, Try.ntmps86
  go_wp2_with (fail)
  go_loopw [11] (fun i wr => ∃ k : Nat, k ≤ n ∧ i = .int .i64 k ∧ As (cmpL xs ys = cmpL (xs.drop k) (ys.drop k)) ∧ Below w.heap.size w wr) (fun i _ => n - (intOf i).toNat)
  case atStart => exact ⟨0, by omega, rfl, ⟨rfl⟩, Below.refl _ _⟩
  case round =>
    obtain ⟨k, hk, rfl, HE, hb⟩ := hrel
    by_cases hlt : k < n
    · have hlt' : (k : Int) < (n : Int) := by omega
      obtain ⟨b, o, rfl, hr⟩ := (h1.kept hb).2 (by rw [HX.out]; omega)
      obtain ⟨b', o', rfl, hr'⟩ := (h2.kept hb).2 (by rw [HY.out]; omega)
      have c0 : wr.cell? ⟨b, o + k, none⟩ = some (.int .i64 (nth xs k)) := hr k _ (i64s_get xs k (by rw [HX.out]; exact hlt))
      have c1 : wr.cell? ⟨b', o' + k, none⟩ = some (.int .i64 (nth ys k)) := hr' k _ (i64s_get ys k (by rw [HY.out]; exact hlt))
      have HA := As.mk (cmpL_at xs ys k (by rw [HX.out]; exact hlt) (by rw [HY.out]; exact hlt))
      have key := fun W => Compare1_any (nth xs k) (nth ys k) W
      clear hr hr'
      generalize nth xs k = x at *
      generalize nth ys k = y at *
      by_cases q1 : x < y
      · have hc : cmp1 x y = -1 := by unfold cmp1; rw [if_pos q1]
        simp only [hc] at key
        go_wp2_with (fail)
        refine (key _).mono ?_; rintro e w' ⟨rfl, rfl⟩
        go_wp2_with (fail)
        go_ret
        exact ⟨ret_n (by rw [HE.out, HA.out, if_pos q1]), hb⟩
      · by_cases q2 : y < x
        · have hc : cmp1 x y = 1 := by unfold cmp1; rw [if_neg q1, if_pos q2]
          simp only [hc] at key
          go_wp2_with (fail)
          refine (key _).mono ?_; rintro e w' ⟨rfl, rfl⟩
          go_wp2_with (fail)
          go_ret
          exact ⟨ret_n (by rw [HE.out, HA.out, if_neg (by omega), if_pos q2]), hb⟩
        · have hc : cmp1 x y = 0 := by unfold cmp1; rw [if_neg q1, if_neg q2]
          simp only [hc] at key
          go_wp2_with (fail)
          refine (key _).mono ?_; rintro e w' ⟨rfl, rfl⟩
          go_wp2_with (fail)
          go_roundw
          case rel => exact ⟨k + 1, by omega, by go_num, ⟨by rw [HE.out, HA.out, if_neg (by omega), if_neg (by omega)]⟩, hb⟩
          case measure => simp [intOf]; omega
    · obtain rfl : k = n := by omega
      have hE : cmpL xs ys = 0 := by
        rw [HE.out, List.drop_of_length_le (by rw [HX.out]; omega), List.drop_of_length_le (by rw [HY.out]; omega)]; rfl
      go_wp2_with (fail)
      go_ret
      exact ⟨ret_n hE.symm, hb⟩

/-! The map of far pairs -/
def keyV (k i : Nat) : Value := .agg #[.int .i64 (k : Int), .int .i64 (i : Int)]
theorem kL_all : ((List.range 12).all fun k => (List.range 12).all fun i => (keyOf Try.prog 72 (keyV k i)).isSome) = true := by kernel_rfl
theorem kL_some (k i : Nat) (hk : k < 12) (hi : i < 12) : ∃ l, keyOf Try.prog 72 (keyV k i) = some l := by
  have h := List.all_eq_true.1 (List.all_eq_true.1 kL_all k (List.mem_range.2 hk)) i (List.mem_range.2 hi)
  cases hq : keyOf Try.prog 72 (keyV k i) with
  | none => rw [hq] at h; cases h
  | some l => exact ⟨l, rfl⟩
theorem lawK : Maps.Keyed Try.prog 72 := Maps.Keyed.of_law (deep_law_laid (m := 2) laidOut (by omega) (of_decide_eq_true (by kernel_rfl)) (by kernel_rfl) (by kernel_rfl))
theorem kL_ne {k i k' i' : Nat} {l l' : Lit} (h1 : keyOf Try.prog 72 (keyV k i) = some l) (h2 : keyOf Try.prog 72 (keyV k' i') = some l') (h : ¬ (k' = k ∧ i' = i)) : l' ≠ l := by
  intro e
  rw [e] at h2
  have := lawK.inj h2 h1
  simp only [keyV, Value.agg.injEq] at this
  have h3 := congrArg Array.toList this
  simp at h3
  exact h ⟨by omega, by omega⟩
theorem zeroB (w : World) : (zeroValue 4).run Try.prog w = .ok (.bool false) w := by kernel_rfl
/-- block b is a map of c entries at most in which the pairs of S are told by g -/
def FarM (w : World) (b c : Nat) (g : Nat → Nat → Bool) (S : Nat → Nat → Prop) : Prop :=
  ∃ D : DataW Unit, w.ownsMap Try.prog 72 (plainElem Try.prog 4) b c D ∧ ∀ k i, S k i → k < 12 ∧ i < 12 ∧ ∀ l, keyOf Try.prog 72 (keyV k i) = some l → D.atKey l (.lit (.bool false)) = .lit (.bool (g k i))
theorem plainElem_bool_inv {P : Program} {e : TypeId} (he : P.underlying e = some .bool) {v : Value} {z : DataW Unit × List MemPlace} (h : plainElem P e v = some z) : ∃ a, v = .bool a ∧ z = (.lit (.bool a), []) := by
  unfold plainElem at h
  rw [he] at h
  cases v <;> simp at h
  subst h
  exact ⟨_, rfl, rfl⟩
theorem FarM.kept {w w' : World} {b c : Nat} {g : Nat → Nat → Bool} {S : Nat → Nat → Prop} (h : FarM w b c g S) (hb : Below w.heap.size w w') : FarM w' b c g S := by
  obtain ⟨D, h1, h2⟩ := h
  exact ⟨D, h1.kept (row := none) ⟨hb.os, hb.tape, hb.output, hb.size, fun i hi _ => hb.block i hi⟩ (by simp), h2⟩
theorem FarM.lt {w : World} {b c : Nat} {g : Nat → Nat → Bool} {S : Nat → Nat → Prop} (h : FarM w b c g S) : b < w.heap.size := by
  obtain ⟨D, h1, h2⟩ := h
  exact h1.lt
theorem FarM.wider {w : World} {b c c' : Nat} {g : Nat → Nat → Bool} {S S' : Nat → Nat → Prop} (h : FarM w b c g S) (hc : c ≤ c') (hS : ∀ k i, S' k i → S k i) : FarM w b c' g S' := by
  obtain ⟨D, h1, h2⟩ := h
  exact ⟨D, h1.mono hc, fun k i h => h2 k i (hS k i h)⟩
theorem FarM.look {w : World} {b c : Nat} {g : Nat → Nat → Bool} {S : Nat → Nat → Prop} (h : FarM w b c g S) (k i : Nat) (hS : S k i) :
    (Instr.lookup 70 (.map (some b)) (keyV k i) false).run Try.prog w = .ok (.bool (g k i)) w := by
  obtain ⟨D, h1, h2⟩ := h
  obtain ⟨hk, hi, hat⟩ := h2 k i hS
  obtain ⟨l, hl⟩ := kL_some k i hk hi
  obtain ⟨v, ps, hrun, hv⟩ := h1.lookup lawK Try.underlying70 (zeroB _) (plainElem_bool Try.underlying4 false) hl
  obtain ⟨a, rfl, hz⟩ := plainElem_bool_inv Try.underlying4 hv
  rw [hat l hl] at hz
  have : g k i = a := by simp at hz; exact hz.1
  rw [this]; exact hrun
theorem FarM.put {w : World} {b c : Nat} {g : Nat → Nat → Bool} {S : Nat → Nat → Prop} (h : FarM w b c g S) (hc : c < 1000) (k i : Nat) (hk : k < 12) (hi : i < 12) :
    ∃ w', (Instr.mapUpdate 70 (.map (some b)) (keyV k i) (.bool (g k i))).run Try.prog w = .ok () w' ∧ FarM w' b (c + 1) g (fun k' i' => S k' i' ∨ (k' = k ∧ i' = i)) ∧ w.grownBy w' (some b) := by
  obtain ⟨D, h1, h2⟩ := h
  obtain ⟨l0, hl0⟩ := kL_some k i hk hi
  obtain ⟨w', hrun, ho, hg⟩ := h1.update lawK Try.underlying70 (by simp only [maxLen]; omega) hl0 (plainElem_bool Try.underlying4 (g k i))
  refine ⟨w', hrun, ⟨_, ho, fun k' i' hS => ?_⟩, hg⟩
  by_cases e : k' = k ∧ i' = i
  · obtain ⟨rfl, rfl⟩ := e
    refine ⟨hk, hi, fun l hl => ?_⟩
    have : l0 = l := Option.some.inj (hl0.symm.trans hl)
    subst this
    exact Maps.atKey_put_same h1.isMap (lawK.key hl0) _ _
  · rcases hS with hS | hS
    · obtain ⟨a1, a2, a3⟩ := h2 k' i' hS
      exact ⟨a1, a2, fun l hl => by rw [Maps.atKey_put_other (kL_ne hl0 hl e)]; exact a3 l hl⟩
    · exact absurd hS e
theorem FarM.made (w : World) (g : Nat → Nat → Bool) : FarM (w.alloc (.map #[] 0)) w.heap.size 0 g (fun _ _ => False) := ⟨_, World.ownsMap_made _ _ _ _, fun _ _ h => h.elim⟩

theorem accN_iff (f : Nat → Nat → Bool) : ∀ (X T : List Nat), accN f T X = true ↔ ∀ n, n < X.length → ∀ k, k < (T ++ X.take n).length → f ((T ++ X.take n).getD k 0) (X.getD n 0) = true
  | [], T => by simp [accN]
  | a :: x, T => by
    unfold accN
    rw [Bool.and_eq_true, accN_iff f x (T ++ [a])]
    have hfit : fitsN f T a = true ↔ ∀ k, k < T.length → f (T.getD k 0) a = true := by
      unfold fitsN
      rw [List.all_eq_true]
      constructor
      · intro h k hk
        have := h T[k] (List.getElem_mem hk)
        simpa [List.getElem?_eq_getElem hk] using this
      · intro h y hy
        obtain ⟨k, hk, rfl⟩ := List.mem_iff_getElem.1 hy
        have := h k hk
        simpa [List.getElem?_eq_getElem hk] using this
    rw [hfit]
    constructor
    · rintro ⟨h1, h2⟩ n hn k hk
      cases n with
      | zero => simpa using h1 k (by simpa using hk)
      | succ n =>
        have := h2 n (by simpa using hn) k (by simpa [List.take_succ_cons, Nat.add_assoc, Nat.add_comm, Nat.add_left_comm] using hk)
        simpa using this
    · intro h
      refine ⟨fun k hk => ?_, fun n hn k hk => ?_⟩
      · have := h 0 (by simp) k (by simpa using hk)
        simpa using this
      · have := h (n + 1) (by simpa using hn) k (by simpa [List.take_succ_cons, Nat.add_assoc, Nat.add_comm, Nat.add_left_comm] using hk)
        simpa using this
theorem acc_true {f : Nat → Nat → Bool} {X : List Nat} (h : ∀ n, n < X.length → ∀ k, k < n → f (X.getD k 0) (X.getD n 0) = true) : accN f [] X = true := by
  rw [accN_iff]
  intro n hn k hk
  simp only [List.nil_append, List.length_take] at hk ⊢
  have : (X.take n).getD k 0 = X.getD k 0 := by
    rw [List.getD_eq_getElem?_getD, List.getD_eq_getElem?_getD, List.getElem?_take, if_pos (by omega)]
  rw [this]
  exact h n hn k (by omega)
theorem acc_false {f : Nat → Nat → Bool} {X : List Nat} {n k : Nat} (hn : n < X.length) (hk : k < n) (h : f (X.getD k 0) (X.getD n 0) = false) : accN f [] X = false := by
  cases hq : accN f [] X
  · rfl
  · rw [accN_iff] at hq
    have := hq n hn k (by simp; omega)
    have e : (([] : List Nat) ++ X.take n).getD k 0 = X.getD k 0 := by
      rw [List.nil_append, List.getD_eq_getElem?_getD, List.getD_eq_getElem?_getD, List.getElem?_take, if_pos hk]
    rw [e, h] at this
    cases this
end Go.Proofs.Ytjppoejkfpeicaa
