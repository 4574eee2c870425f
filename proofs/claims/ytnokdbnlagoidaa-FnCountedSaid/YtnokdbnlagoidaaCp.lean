/- Plain: the count by patterns is the count of all meanings. No program. -/
import Derived.Test.YtnokdbnlagoidaaCm
set_option linter.unusedVariables false
namespace Go.Proofs.Ytnokdbnlagoidaa
open Go.RowKit

/-- Sums over the first numbers. -/
def sumTo (f : Nat → Nat) : Nat → Nat
  | 0 => 0
  | k + 1 => sumTo f k + f k
theorem sumTo_congr {f g : Nat → Nat} : ∀ {n : Nat}, (∀ k, k < n → f k = g k) → sumTo f n = sumTo g n
  | 0, _ => rfl
  | n + 1, h => by show _ + _ = _ + _; rw [sumTo_congr (fun k hk => h k (by omega)), h n (by omega)]
theorem sumTo_le {f g : Nat → Nat} : ∀ {n : Nat}, (∀ k, k < n → f k ≤ g k) → sumTo f n ≤ sumTo g n
  | 0, _ => Nat.le_refl _
  | n + 1, h => Nat.add_le_add (sumTo_le (fun k hk => h k (by omega))) (h n (by omega))
theorem sumTo_mono {f : Nat → Nat} {n m : Nat} (h : n ≤ m) : sumTo f n ≤ sumTo f m := by
  induction m with
  | zero => obtain rfl : n = 0 := by omega
            exact Nat.le_refl _
  | succ m ih =>
    by_cases e : n = m + 1
    · subst e; exact Nat.le_refl _
    · exact Nat.le_trans (ih (by omega)) (Nat.le_add_right _ _)
theorem sumTo_add {f g : Nat → Nat} : ∀ {n : Nat}, sumTo (fun k => f k + g k) n = sumTo f n + sumTo g n
  | 0 => rfl
  | n + 1 => by show sumTo _ n + (f n + g n) = _; rw [sumTo_add]; show _ = (sumTo f n + f n) + (sumTo g n + g n); omega
theorem sumTo_zero {n : Nat} : sumTo (fun _ => 0) n = 0 := by
  induction n with
  | zero => rfl
  | succ n ih => show sumTo _ n + 0 = 0; rw [ih]
theorem sumTo_swap {f : Nat → Nat → Nat} {n m : Nat} : sumTo (fun i => sumTo (fun j => f i j) m) n = sumTo (fun j => sumTo (fun i => f i j) n) m := by
  induction n with
  | zero => exact sumTo_zero.symm
  | succ n ih => show sumTo _ n + _ = _; rw [ih, ← sumTo_add]; rfl
theorem sumTo_mul {f : Nat → Nat} {c : Nat} : ∀ {n : Nat}, c * sumTo f n = sumTo (fun k => c * f k) n
  | 0 => rfl
  | n + 1 => by show c * (sumTo f n + f n) = sumTo _ n + _; rw [Nat.mul_add, sumTo_mul]
theorem sumTo_const {c : Nat} : ∀ {n : Nat}, sumTo (fun _ => c) n = n * c
  | 0 => by simp [sumTo]
  | n + 1 => by show sumTo _ n + c = _; rw [sumTo_const, Nat.succ_mul]
theorem sumTo_split {f : Nat → Nat} {a : Nat} : ∀ {b : Nat}, sumTo f (a + b) = sumTo f a + sumTo (fun k => f (a + k)) b
  | 0 => rfl
  | b + 1 => by show sumTo f (a + b) + f (a + b) = _ + (sumTo _ b + f (a + b)); rw [sumTo_split]; omega
/-- Two numbers exchanged. -/
def swp (a b x : Nat) : Nat := if x = a then b else if x = b then a else x
theorem swp_swp (a b x : Nat) : swp a b (swp a b x) = x := by
  unfold swp
  by_cases h1 : x = a
  · subst h1; rw [if_pos rfl]; by_cases h2 : b = x
    · rw [if_pos h2, h2]
    · rw [if_neg h2, if_pos rfl]
  · rw [if_neg h1]
    by_cases h2 : x = b
    · subst h2; rw [if_pos rfl, if_pos rfl]
    · rw [if_neg h2, if_neg h1, if_neg h2]
theorem swp_lt {a b x K : Nat} (ha : a < K) (hb : b < K) (hx : x < K) : swp a b x < K := by
  unfold swp; split
  · exact hb
  · split
    · exact ha
    · exact hx
/-- One place taken out of a sum. -/
theorem sumTo_out {f : Nat → Nat} {a : Nat} : ∀ {n : Nat}, a < n → sumTo f n = sumTo (fun k => if k = a then 0 else f k) n + f a
  | 0, h => by omega
  | n + 1, h => by
    show sumTo f n + f n = (sumTo _ n + (if n = a then 0 else f n)) + f a
    by_cases e : n = a
    · subst e
      rw [if_pos rfl, sumTo_congr (f := fun k => if k = n then 0 else f k) (g := f) (fun k hk => if_neg (by omega)), Nat.add_zero]
    · rw [if_neg e, sumTo_out (show a < n by omega)]; omega
theorem sumTo_swp {f : Nat → Nat} {a b n : Nat} (ha : a < n) (hb : b < n) : sumTo (fun k => f (swp a b k)) n = sumTo f n := by
  by_cases e : a = b
  · subst e
    exact sumTo_congr (fun k _ => by unfold swp; split <;> simp_all)
  · rw [sumTo_out ha, sumTo_out (f := fun k => if k = a then 0 else f (swp a b k)) hb, sumTo_out (f := f) ha, sumTo_out (f := fun k => if k = a then 0 else f k) hb]
    have e1 : (if b = a then 0 else f (swp a b b)) = f a := by rw [if_neg (Ne.symm e)]; unfold swp; rw [if_neg (Ne.symm e), if_pos rfl]
    have e2 : f (swp a b a) = f b := by unfold swp; rw [if_pos rfl]
    have e3 : (if b = a then 0 else f b) = f b := if_neg (Ne.symm e)
    rw [e1, e2, e3, sumTo_congr (f := fun k => if k = b then 0 else if k = a then 0 else f (swp a b k)) (g := fun k => if k = b then 0 else if k = a then 0 else f k) (fun k _ => by
      by_cases h1 : k = b
      · rw [if_pos h1, if_pos h1]
      · rw [if_neg h1, if_neg h1]
        by_cases h2 : k = a
        · rw [if_pos h2, if_pos h2]
        · rw [if_neg h2, if_neg h2]; unfold swp; rw [if_neg h2, if_neg h1])]
    omega

/-- Kinds renamed. -/
def ren (a b : Nat) (x : Int) : Int := if 0 ≤ x then (swp a b x.toNat : Int) else x
theorem ren_nat (a b k : Nat) : ren a b (k : Int) = (swp a b k : Int) := by unfold ren; rw [if_pos (by omega)]; simp
theorem ren_neg {a b : Nat} {x : Int} (h : x < 0) : ren a b x = x := by unfold ren; rw [if_neg (by omega)]
theorem ren_ren (a b : Nat) (x : Int) : ren a b (ren a b x) = x := by
  by_cases h : 0 ≤ x
  · obtain ⟨k, rfl⟩ : ∃ k : Nat, x = (k : Int) := ⟨x.toNat, by omega⟩
    rw [ren_nat, ren_nat, swp_swp]
  · rw [ren_neg (show x < 0 by omega), ren_neg (show x < 0 by omega)]
theorem ren_inj {a b : Nat} {x y : Int} : ren a b x = ren a b y ↔ x = y := ⟨fun h => by rw [← ren_ren a b x, h, ren_ren], fun h => by rw [h]⟩
theorem ren_brk {a b : Nat} {x : Int} : ren a b x = -10 ↔ x = -10 := by
  constructor
  · intro h
    have : ren a b x = ren a b (-10) := by rw [h, ren_neg (by omega)]
    exact ren_inj.1 this
  · intro h
    rw [h, ren_neg (by omega)]
theorem nth_ren {a b : Nat} {m : List Int} {k : Nat} (hk : k < m.length) : nth (m.map (ren a b)) k = ren a b (nth m k) := by
  unfold nth; rw [List.getD_eq_getElem?_getD, List.getD_eq_getElem?_getD, List.getElem?_map, List.getElem?_eq_getElem hk]; rfl
theorem count_ren {a b : Nat} {h : List Int} {x : Int} : (h.map (ren a b)).count (ren a b x) = h.count x := by
  induction h with
  | nil => rfl
  | cons y h ih =>
    rw [List.map_cons, List.count_cons, List.count_cons, ih]
    by_cases e : y = x
    · subst e; simp
    · have : ren a b y ≠ ren a b x := fun h => e (ren_inj.1 h)
      simp [e, this]
theorem subAt_ren {a b : Nat} {m : List Int} {i g n : Nat} (hi : i < m.length) : subAt (m.map (ren a b)) i g n = subAt m i g n := by
  unfold subAt
  by_cases h : g + n - 1 < i
  · rw [decide_eq_true h, nth_ren hi, nth_ren (by omega)]
    congr 1
    rw [Bool.eq_iff_iff, beq_iff_eq, beq_iff_eq, ren_inj]
  · rw [decide_eq_false h]; rfl
theorem subsAt_ren {a b : Nat} {m : List Int} {i g : Nat} (hi : i < m.length) : ∀ n, subsAt (m.map (ren a b)) i g n = (subsAt m i g n).map (ren a b)
  | 0 => rfl
  | n + 1 => by
    show _ ++ _ = List.map _ (_ ++ _)
    rw [List.map_append, subsAt_ren hi n, subAt_ren hi]
    congr 1
    split
    · rw [List.map_cons, List.map_nil, ren_neg (by omega)]
    · rfl
theorem optsAt_ren {a b : Nat} {m : List Int} {i g n : Nat} (hi : i < m.length) : optsAt (m.map (ren a b)) i g n = (optsAt m i g n).map (ren a b) := by
  unfold optsAt; rw [List.map_append, subsAt_ren hi, nth_ren hi]; rfl
theorem filter_ren {a b sets : Nat} {h : List Int} : ∀ l : List Int, (l.map (ren a b)).filter (enough sets (h.map (ren a b))) = (l.filter (enough sets h)).map (ren a b)
  | [] => rfl
  | x :: l => by
    have : enough sets (h.map (ren a b)) (ren a b x) = enough sets h x := by unfold enough; rw [count_ren]
    rw [List.map_cons, List.filter_cons, List.filter_cons, this, filter_ren l]
    split <;> simp
theorem isEmpty_app (a b : List (List Int)) : (a ++ b).isEmpty = (a.isEmpty && b.isEmpty) := by cases a <;> rfl
theorem look_ren {a b : Nat} {m : List Int} {sets subs : Nat} : ∀ (d : Nat) (h : List Int) (g : Nat), h.length + d = m.length →
    (look (m.map (ren a b)) sets subs d (h.map (ren a b)) g).isEmpty = (look m sets subs d h g).isEmpty
  | 0, h, g, hl => rfl
  | d + 1, h, g, hl => by
    have hi : h.length < m.length := by omega
    have hn : nth (m.map (ren a b)) (h.map (ren a b)).length = ren a b (nth m h.length) := by rw [List.length_map]; exact nth_ren hi
    by_cases hx : nth m h.length = -10
    · rw [look_brk hx, look_brk (by rw [hn, hx, ren_neg (by omega)]), List.length_map]
      rw [show h.map (ren a b) ++ [-10] = (h ++ [-10]).map (ren a b) by rw [List.map_append, List.map_cons, List.map_nil, ren_neg (by omega)]]
      exact look_ren d _ _ (by simp; omega)
    · rw [look_kind hx, look_kind (by rw [hn]; exact fun e => hx (ren_brk.1 e)), List.length_map, optsAt_ren hi, filter_ren]
      have key : ∀ l : List Int, ((l.map (ren a b)).flatMap fun x => look (m.map (ren a b)) sets subs d (h.map (ren a b) ++ [x]) g).isEmpty = (l.flatMap fun x => look m sets subs d (h ++ [x]) g).isEmpty := by
        intro l
        induction l with
        | nil => rfl
        | cons x l ih =>
          rw [List.map_cons, List.flatMap_cons, List.flatMap_cons, isEmpty_app, isEmpty_app, ih]
          congr 1
          have := look_ren (a := a) (b := b) (m := m) (sets := sets) (subs := subs) d (h ++ [x]) g (by simp; omega)
          rw [List.map_append] at this
          exact this
      exact key _
/-- Whether a meaning can be hoisted at all. -/
def can (sets subs : Nat) (m : List Int) : Nat := if (found m sets subs).isEmpty then 0 else 1
theorem can_ren {a b sets subs : Nat} {m : List Int} : can sets subs (m.map (ren a b)) = can sets subs m := by
  unfold can found
  have := look_ren (a := a) (b := b) (m := m) (sets := sets) (subs := subs) m.length [] 0 (by simp)
  rw [List.length_map]
  rw [show ([] : List Int).map (ren a b) = [] from rfl] at this
  rw [this]

/-- How many words of d kinds more can be hoisted. -/
def words (K sets subs : Nat) : Nat → List Int → Nat
  | 0, m => can sets subs m
  | d + 1, m => sumTo (fun x => words K sets subs d (m ++ [(x : Int)])) K
theorem words_ren {K sets subs a b : Nat} (ha : a < K) (hb : b < K) : ∀ (d : Nat) (m : List Int), words K sets subs d (m.map (ren a b)) = words K sets subs d m
  | 0, m => can_ren
  | d + 1, m => by
    show sumTo _ K = sumTo _ K
    rw [← sumTo_swp (f := fun x => words K sets subs d (m.map (ren a b) ++ [(x : Int)])) ha hb]
    apply sumTo_congr
    intro k hk
    rw [← words_ren ha hb d (m ++ [(k : Int)]), List.map_append, List.map_cons, List.map_nil, ren_nat]
/-- The count by patterns. -/
theorem sum_map_range (f : Nat → Nat) : ∀ k, ((List.range k).map f).sum = sumTo f k
  | 0 => rfl
  | k + 1 => by rw [List.range_succ, List.map_append, List.sum_append, sum_map_range f k]; simp [sumTo]
theorem pat_words (K sets subs : Nat) : ∀ (d : Nat) (m : List Int) (nx : Nat), nx ≤ K → (∀ x ∈ m, 0 ≤ x ∧ x < (nx : Int)) → pat K sets subs d m nx = prodK K nx * words K sets subs d m
  | 0, m, nx, h, hm => by unfold pat words can; split <;> simp
  | d + 1, m, nx, h, hm => by
    have hsame : ∀ x, nx ≤ x → x < K → words K sets subs d (m ++ [(x : Int)]) = words K sets subs d (m ++ [(nx : Int)]) := by
      intro x h1 h2
      rw [← words_ren (a := nx) (b := x) (by omega) h2 d (m ++ [(nx : Int)]), List.map_append, List.map_cons, List.map_nil, ren_nat]
      have e1 : m.map (ren nx x) = m := by
        conv => rhs; rw [← List.map_id m]
        apply List.map_congr_left
        intro y hy
        have := hm y hy
        obtain ⟨k, rfl⟩ : ∃ k : Nat, y = (k : Int) := ⟨y.toNat, by omega⟩
        rw [ren_nat]
        unfold swp
        rw [if_neg (by omega), if_neg (by omega)]; rfl
      have e2 : swp nx x nx = x := by unfold swp; rw [if_pos rfl]
      rw [e1, e2]
    have hmem : ∀ (x : Nat) (n : Nat), x < n → nx ≤ n → ∀ y ∈ m ++ [(x : Int)], 0 ≤ y ∧ y < (n : Int) := by
      intro x n hx hn y hy
      rcases List.mem_append.1 hy with hy | hy
      · have := hm y hy; omega
      · simp at hy; subst hy; omega
    rw [pat_succ]
    unfold patK
    rw [sum_map_range]
    have hlow : sumTo (fun x => pat K sets subs d (m ++ [(x : Int)]) (if x = nx then nx + 1 else nx)) nx = prodK K nx * sumTo (fun x => words K sets subs d (m ++ [(x : Int)])) nx := by
      rw [sumTo_mul]
      apply sumTo_congr
      intro x hx
      rw [if_neg (by omega)]
      exact pat_words K sets subs d _ nx h (hmem x nx hx (Nat.le_refl _))
    have hsum : words K sets subs (d + 1) m = sumTo (fun x => words K sets subs d (m ++ [(x : Int)])) nx + (K - nx) * words K sets subs d (m ++ [(nx : Int)]) := by
      show sumTo _ K = _
      rw [show K = nx + (K - nx) by omega, sumTo_split]
      congr 1
      rw [show nx + (K - nx) - nx = K - nx by omega, ← sumTo_const]
      apply sumTo_congr
      intro k hk
      rw [show nx + (K - nx) = K by omega]
      exact hsame (nx + k) (by omega) (by omega)
    unfold endK
    split
    · rename_i hl
      show sumTo _ nx + pat K sets subs d (m ++ [(nx : Int)]) (if nx = nx then nx + 1 else nx) = _
      rw [hlow, if_pos rfl, pat_words K sets subs d _ (nx + 1) hl (hmem nx (nx + 1) (by omega) (by omega)), hsum, Nat.mul_add, show prodK K (nx + 1) = prodK K nx * (K - nx) from rfl, Nat.mul_assoc]
    · have e : K - nx = 0 := by omega
      rw [hlow, hsum, e, Nat.zero_mul, Nat.add_zero]
theorem words_mono {K sets subs : Nat} : ∀ (d : Nat) (m : List Int), words K sets subs d m ≤ words (K + 1) sets subs d m
  | 0, m => Nat.le_refl _
  | d + 1, m => Nat.le_trans (sumTo_le (fun x _ => words_mono d _)) (sumTo_mono (Nat.le_succ K))
theorem words_le {K sets subs : Nat} : ∀ (d : Nat) (m : List Int), words K sets subs d m ≤ K ^ d
  | 0, m => by unfold words can; split <;> simp
  | d + 1, m => by
    refine Nat.le_trans (sumTo_le (g := fun _ => K ^ d) (fun x _ => words_le d _)) ?_
    rw [sumTo_const, Nat.pow_succ, Nat.mul_comm]; exact Nat.le_refl _
/-- The digits of a number, the least ahead. -/
def digs (K : Nat) : Nat → Nat → List Int
  | 0, _ => []
  | d + 1, x => ((x % K : Nat) : Int) :: digs K d (x / K)
theorem sumTo_prod {f : Nat → Nat} {K : Nat} : ∀ n, sumTo f (n * K) = sumTo (fun y => sumTo (fun r => f (y * K + r)) K) n
  | 0 => by rw [Nat.zero_mul]; rfl
  | n + 1 => by rw [Nat.succ_mul, sumTo_split, sumTo_prod n]; rfl
theorem words_digs {K sets subs : Nat} (hK : 0 < K) : ∀ (d : Nat) (m : List Int), words K sets subs d m = sumTo (fun x => can sets subs (m ++ digs K d x)) (K ^ d)
  | 0, m => by show can sets subs m = sumTo _ 1; show _ = 0 + can sets subs (m ++ []); rw [List.append_nil, Nat.zero_add]
  | d + 1, m => by
    rw [Nat.pow_succ, sumTo_prod]
    show sumTo _ K = _
    rw [sumTo_congr (f := fun x => words K sets subs d (m ++ [(x : Int)])) (g := fun x => sumTo (fun y => can sets subs (m ++ [(x : Int)] ++ digs K d y)) (K ^ d)) (fun x _ => words_digs hK d _), sumTo_swap]
    apply sumTo_congr
    intro y _
    apply sumTo_congr
    intro r hr
    have h1 : (y * K + r) % K = r := by rw [Nat.mul_comm, Nat.mul_add_mod, Nat.mod_eq_of_lt hr]
    have h2 : (y * K + r) / K = y := by rw [Nat.mul_comm, Nat.mul_add_div hK, Nat.div_eq_of_lt hr, Nat.add_zero]
    show _ = can sets subs (m ++ (((y * K + r) % K : Nat) : Int) :: digs K d ((y * K + r) / K))
    rw [h1, h2, List.append_assoc]; rfl
theorem digs_length (K : Nat) : ∀ d x, (digs K d x).length = d
  | 0, x => rfl
  | d + 1, x => by show (digs K d _).length + 1 = _; rw [digs_length]
theorem digs_kinds {K : Nat} (h0 : 0 < K) (hK : K ≤ 40) : ∀ d x, ∀ y ∈ digs K d x, 0 ≤ y ∧ y ≤ 39
  | 0, x, y, hy => by cases hy
  | d + 1, x, y, hy => by
    rcases List.mem_cons.1 hy with rfl | hy
    · have := Nat.mod_lt x h0; omega
    · exact digs_kinds h0 hK d _ y hy
/-- All that FnCounted says of the count. -/
theorem counted {K sets subs len : Nat} (h0 : 0 < K) : pat K sets subs len [] 0 = sumTo (fun x => can sets subs (digs K len x)) (K ^ len) ∧ pat K sets subs len [] 0 ≤ pat (K + 1) sets subs len [] 0 ∧ pat K sets subs len [] 0 ≤ K ^ len := by
  have e : ∀ K, pat K sets subs len [] 0 = words K sets subs len [] := fun K => by rw [pat_words K sets subs len [] 0 (by omega) (by simp), show prodK K 0 = 1 from rfl, Nat.one_mul]
  rw [e, e]
  refine ⟨by rw [words_digs h0]; rfl, words_mono len [], words_le len []⟩
end Go.Proofs.Ytnokdbnlagoidaa
