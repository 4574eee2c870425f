/- Contracts and plain facts, several texts in one. -/
import Derived.Test.YtldfogiaccanpaaDoorQH2
import Derived.BigQuiet
import Derived.Lib.SplitLaws
import Derived.Lib.ItoaNum
import Derived.Lib.ParseIntB
import Derived.Lib.Strings
import Derived.Test.YtldfogiaccanpaaDoorQH1
/- Contracts: slices of strings, books: sizes, copies, comparisons; SameBook (both sides). -/
set_option linter.unusedVariables false
namespace Go.Proofs.YtldfogiaccanpaaDoor
open Go.RowKit

def strs (ss : List ByteArray) : List Value := ss.map Value.string
theorem strs_length (ss : List ByteArray) : (strs ss).length = ss.length := by simp [strs]
def nthS (ss : List ByteArray) (i : Nat) : ByteArray := ss.getD i ⟨#[]⟩
theorem nthS_get (ss : List ByteArray) (i : Nat) (h : i < ss.length) : nthS ss i = ss[i] := by
  unfold nthS; rw [List.getD_eq_getElem?_getD, List.getElem?_eq_getElem h]; rfl
theorem strs_get (ss : List ByteArray) (i : Nat) (h : i < ss.length) : (strs ss)[i]? = some (.string (nthS ss i)) := by
  unfold strs; rw [List.getElem?_map, List.getElem?_eq_getElem h, nthS_get ss i h]; rfl
theorem nthS_mem (ss : List ByteArray) (i : Nat) (h : i < ss.length) : nthS ss i ∈ ss := by rw [nthS_get ss i h]; exact List.getElem_mem h
/-- A slice of strings. -/
def SlS (w : World) (A : Option Addr) (ss : List ByteArray) : Prop := ss.length ≤ 9223372036854775807 ∧ (∀ s ∈ ss, s.size ≤ maxLen) ∧ (0 < ss.length → ∃ b o, A = some ⟨b, o, none⟩ ∧ w.rangeAt b o (strs ss))
theorem SlS.kept {w w' : World} {A : Option Addr} {ss : List ByteArray} (h : SlS w A ss) (hb : Below w.heap.size w w') : SlS w' A ss :=
  And.intro h.1 (And.intro h.2.1 fun hp => by obtain ⟨b, o, e, hr⟩ := h.2.2 hp; exact ⟨b, o, e, range_below hr hb⟩)
theorem SlS.at {w : World} {b o : Nat} {ss : List ByteArray} (h : w.rangeAt b o (strs ss)) (i : Nat) (hi : i < ss.length) : w.cell? ⟨b, o + i, none⟩ = some (.string (nthS ss i)) := h i _ (strs_get ss i hi)
theorem Own.slS {w : World} {base : Nat} {e : TypeId} {v : Value} {ss : List ByteArray} (h : Own w base e v (strs ss)) (hz : ∀ s ∈ ss, s.size ≤ maxLen) : ∃ A c, v = .slice A ss.length c ∧ SlS w A ss := by
  rcases h.form with ⟨rfl, hn⟩ | ⟨g, c, rfl, _, _, hr, _, hm, _⟩
  · have : ss = [] := by simpa [strs] using hn
    subst this
    exact ⟨none, 0, rfl, by simp, hz, fun hp => by simp at hp⟩
  · rw [strs_length] at hm ⊢
    exact ⟨_, c, rfl, hm, hz, fun _ => ⟨g, 0, rfl, hr⟩⟩

/-- The first k strings, then empty ones. -/
def partS (ss : List ByteArray) (n k : Nat) : List ByteArray := (List.range n).map fun i => if i < k then nthS ss i else ⟨#[]⟩
theorem partS_length (ss : List ByteArray) (n k : Nat) : (partS ss n k).length = n := by simp [partS]
theorem partS_zero (ss : List ByteArray) (n : Nat) : partS ss n 0 = List.replicate n ⟨#[]⟩ := by
  unfold partS
  apply List.ext_getElem
  · simp
  · intro i h1 h2; simp
theorem partS_set (ss : List ByteArray) (n k : Nat) : (strs (partS ss n k)).set k (.string (nthS ss k)) = strs (partS ss n (k + 1)) := by
  unfold strs partS
  apply List.ext_getElem
  · simp
  · intro i h1 h2
    simp only [List.getElem_set, List.getElem_map, List.getElem_range]
    by_cases h : k = i
    · subst h; simp
    · rw [if_neg h]
      by_cases h3 : i < k
      · rw [if_pos h3, if_pos (by omega)]
      · rw [if_neg h3, if_neg (by omega)]
theorem partS_full (ss : List ByteArray) (n : Nat) (h : ss.length = n) : partS ss n n = ss := by
  subst h
  unfold partS
  apply List.ext_getElem
  · simp
  · intro i h1 h2
    simp only [List.getElem_map, List.getElem_range]
    rw [if_pos h2, nthS_get ss i h2]

/-- The size of strings, as far as a law asks it. -/
def Sized (ss : List ByteArray) (left r : Int) : Prop := r ≤ left ∧ (r = -1 ∨ (0 ≤ r ∧ ss.length ≤ 1048576 ∧ ∀ s ∈ ss, s.size ≤ 1048576))
theorem toList_ne {u v : ByteArray} (h : u ≠ v) : (u.toList == v.toList) = false := by
  rw [beq_eq_false_iff_ne]
  intro e
  apply h
  rw [ByteArray.toList_eq, ByteArray.toList_eq] at e
  exact ByteArray.ext (Array.toList_inj.1 e)
theorem ext_nthS {ss ts : List ByteArray} (hl : ss.length = ts.length) : ss = ts ↔ ∀ i, i < ts.length → nthS ss i = nthS ts i := by
  constructor
  · intro h i _; rw [h]
  · intro h
    apply List.ext_getElem hl
    intro i h1 h2
    rw [← nthS_get ss i h1, ← nthS_get ts i h2]
    exact h i h2
theorem setRow_grown (w : World) (g : Nat) (ds : Array Value) : w.grownBy (w.setRow g ds) (some g) := ⟨rfl, rfl, rfl, by simp, fun k hk hne => setRow_other w g k ds (fun e => hne (by rw [e]))⟩
/-- A book by value. -/
structure Bok where
  k : Int
  l : Int
  s : Int
  ps : List ByteArray
deriving DecidableEq
/-- Its numbers are bytes. -/
def bokR (b : Bok) : Prop := (-128 ≤ b.k ∧ b.k ≤ 127) ∧ (-128 ≤ b.l ∧ b.l ≤ 127) ∧ (-128 ≤ b.s ∧ b.s ≤ 127)
def bokC (b : Bok) (A : Option Addr) (c : Nat) : List Value := [.int .i8 b.k, .int .i8 b.l, .int .i8 b.s, .slice A b.ps.length c]
def bok (b : Bok) (A : Option Addr) (c : Nat) : Value := .agg (bokC b A c).toArray
end Go.Proofs.YtldfogiaccanpaaDoor

/- ReadHoist: plain facts: a text cut at its blanks, numbers read from words, words read. -/
set_option linter.unusedVariables false
set_option linter.unusedSimpArgs false
namespace Go.Proofs.YtldfogiaccanpaaDoor
open Go.RowKit

/-- A text cut at its blanks. -/
def cutW : List UInt8 → List (List UInt8)
  | [] => [[]]
  | b :: l => if b = 32 then [] :: cutW l else ((b :: (cutW l).headD []) :: (cutW l).tail)
theorem cutW_form (l : List UInt8) : ∃ x xs, cutW l = x :: xs := by
  cases l with
  | nil => exact ⟨[], [], rfl⟩
  | cons b l => unfold cutW; split <;> exact ⟨_, _, rfl⟩
theorem cutW_hit : ∀ (u v : List UInt8), (∀ b ∈ u, b ≠ 32) → cutW (u ++ 32 :: v) = u :: cutW v
  | [], v, _ => by simp [cutW]
  | b :: u, v, h => by
    have hb : b ≠ 32 := h b (by simp)
    have ih := cutW_hit u v (fun x hx => h x (by simp [hx]))
    show (if b = 32 then [] :: cutW (u ++ 32 :: v) else ((b :: (cutW (u ++ 32 :: v)).headD []) :: (cutW (u ++ 32 :: v)).tail)) = _
    rw [if_neg hb, ih]; rfl
theorem cutW_miss : ∀ (u : List UInt8), (∀ b ∈ u, b ≠ 32) → cutW u = [u]
  | [], _ => rfl
  | b :: u, h => by
    have hb : b ≠ 32 := h b (by simp)
    have ih := cutW_miss u (fun x hx => h x (by simp [hx]))
    show (if b = 32 then [] :: cutW u else ((b :: (cutW u).headD []) :: (cutW u).tail)) = _
    rw [if_neg hb, ih]; rfl
theorem cutW_sum : ∀ l : List UInt8, ((cutW l).map (fun w => w.length + 1)).sum = l.length + 1
  | [] => rfl
  | b :: l => by
    have ih := cutW_sum l
    obtain ⟨x, xs, e⟩ := cutW_form l
    show ((if b = 32 then [] :: cutW l else ((b :: (cutW l).headD []) :: (cutW l).tail)).map _).sum = _
    rw [e] at ih ⊢
    simp only [List.map_cons, List.sum_cons] at ih
    split
    · simp only [List.map_cons, List.sum_cons, List.length_nil, List.length_cons]; omega
    · simp only [List.headD_cons, List.tail_cons, List.map_cons, List.sum_cons, List.length_cons]; omega
theorem ixc_eq (c : UInt8) (l : List UInt8) : Lib.index (c :: l) [c] = ((0 : Nat) : Int) := by rw [Lib.index]; simp [List.isPrefixOf]
theorem ixc_ne (b c : UInt8) (l : List UInt8) (h : b ≠ c) : Lib.index (b :: l) [c] = if Lib.index l [c] == -1 then -1 else Lib.index l [c] + 1 := by
  have hp : ([c] : List UInt8).isPrefixOf (b :: l) = false := by simp [List.isPrefixOf, Ne.symm h]
  rw [Lib.index, hp]; simp
theorem splitK_at (k i : Nat) (s : List UInt8) (h : Lib.index s [32] = i) : Lib.splitK [32] 0 (k + 1) s = s.take i :: Lib.splitK [32] 0 k (s.drop (i + 1)) := by
  have hm : ¬ (Lib.index s [32] == -1) = true := fun e => by have := beq_iff_eq.1 e; omega
  have e : (Lib.index s [32]).toNat = i := by omega
  rw [Lib.splitK, if_neg hm, e]; rfl
theorem splitK_cut : ∀ l : List UInt8, Lib.splitK [32] 0 (Lib.count l [32]) l = cutW l
  | [] => by
    have : Lib.count [] [32] = 0 := Lib.count_miss (by simp [Lib.index])
    rw [this]; rfl
  | b :: l => by
    have ih := splitK_cut l
    show _ = (if b = 32 then [] :: cutW l else ((b :: (cutW l).headD []) :: (cutW l).tail))
    by_cases h : b = 32
    · subst h
      rw [Lib.count_cons_eq, Nat.add_comm, splitK_at _ 0 _ (ixc_eq 32 l), if_pos rfl, ← ih]; rfl
    · rw [Lib.count_cons_ne b 32 l h, if_neg h]
      have hix := ixc_ne b 32 l h
      by_cases hm : Lib.index l [32] = -1
      · rw [Lib.count_miss hm] at ih ⊢
        rw [← ih]; rfl
      · have hge := Lib.index_ge l [32]
        obtain ⟨j, hj⟩ : ∃ j : Nat, Lib.index l [32] = j := ⟨(Lib.index l [32]).toNat, by omega⟩
        have hix' : Lib.index (b :: l) [32] = ((j + 1 : Nat) : Int) := by rw [hix, if_neg (fun e => hm (beq_iff_eq.1 e)), hj]; omega
        have hc := Lib.count_hit (s := l) (sub := [32]) (by simp) hj
        obtain ⟨k, hk⟩ : ∃ k, Lib.count l [32] = k + 1 := ⟨_, by rw [hc, Nat.add_comm]⟩
        rw [hk] at ih ⊢
        rw [splitK_at _ _ _ hix']
        rw [splitK_at _ _ _ hj] at ih
        rw [← ih]; rfl
/-- The words of a text. -/
def wordsB (s : ByteArray) : List ByteArray := (cutW s.data.toList).map fun l => ⟨l.toArray⟩
theorem wordsB_data (s : ByteArray) : (wordsB s).map (·.data.toList) = cutW s.data.toList := by
  unfold wordsB; rw [List.map_map]; exact List.map_id'' (fun _ => rfl) _
theorem bytes_of_lists {xs ys : List ByteArray} (h : xs.map (·.data.toList) = ys.map (·.data.toList)) : xs = ys := by
  have key : ∀ zs : List ByteArray, (zs.map (·.data.toList)).map (fun l => (⟨l.toArray⟩ : ByteArray)) = zs := fun zs => by rw [List.map_map]; exact List.map_id'' (fun _ => rfl) _
  rw [← key xs, h, key ys]
theorem split_words (s : ByteArray) : Lib.splitB ⟨#[32]⟩ 0 (Lib.countB s ⟨#[32]⟩) s = wordsB s := by
  apply bytes_of_lists
  rw [wordsB_data, Lib.splitB_data]
  exact splitK_cut s.data.toList

def bytW (L : List UInt8) (k : Nat) : Int := ((L.getD k 0).toNat : Int)
theorem bytW_bd (L : List UInt8) (k : Nat) : 0 ≤ bytW L k ∧ bytW L k ≤ 255 := by
  unfold bytW
  have := (L.getD k 0).toNat_lt
  omega
theorem bytW_get (s : ByteArray) (k : Nat) (h : k < s.size) : ((s[k]'h).toNat : Int) = bytW s.data.toList k := by
  have h' : k < s.data.size := h
  unfold bytW
  rw [List.getD_eq_getElem?_getD, List.getElem?_eq_getElem (by rw [Array.length_toList]; exact h')]
  rfl
/-- The decimal text of a number below 100. -/
def decN (n : Nat) : List UInt8 := if n < 10 then [UInt8.ofNat (48 + n)] else [UInt8.ofNat (48 + n / 10), UInt8.ofNat (48 + n % 10)]
theorem dec_digits (n : Nat) (h : n < 100) : Lib.decDigits n = decN n := by
  unfold decN
  rw [Lib.decDigits]
  split
  · rfl
  · rw [Lib.decDigits, dif_pos (by omega)]; rfl
theorem itoa_dec (v : Int) (h0 : 0 ≤ v) (h1 : v < 100) : Lib.itoa v = decN v.toNat := by
  unfold Lib.itoa
  rw [if_neg (by omega), dec_digits _ (by omega)]
/-- The number, below 40, that a word spells. -/
def numOf (l : List UInt8) : Option Nat := (List.range 40).find? fun n => decN n == l
theorem numOf_some {l : List UInt8} {n : Nat} (h : numOf l = some n) : n < 40 ∧ l = decN n := by
  have h1 := List.find?_some h
  have h2 := List.mem_of_find?_eq_some h
  exact ⟨List.mem_range.1 h2, (beq_iff_eq.1 h1).symm⟩
theorem numOf_dec : ∀ n : Fin 40, numOf (decN n.1) = some n.1 := by decide +kernel
theorem numOf_none {l : List UInt8} (h : ∀ n, n < 40 → decN n ≠ l) : numOf l = none := by
  unfold numOf
  rw [List.find?_eq_none]
  intro n hn e
  exact h n (List.mem_range.1 hn) (beq_iff_eq.1 e)
theorem parse_dec : ∀ n : Fin 40, (match Lib.parseIntB 64 (decN n.1) with | .ok v => v == (n.1 : Int) | _ => false) = true := by decide +kernel
theorem parse_of {l : List UInt8} {n : Nat} (h : numOf l = some n) : Lib.parseIntB 64 l = .ok (n : Int) := by
  obtain ⟨h1, rfl⟩ := numOf_some h
  have := parse_dec ⟨n, h1⟩
  revert this
  show (match Lib.parseIntB 64 (decN n) with | .ok v => v == (n : Int) | _ => false) = true → _
  cases Lib.parseIntB 64 (decN n) with
  | ok v => intro e; rw [beq_iff_eq.1 e]
  | _ => intro e; cases e
/-- What number answers. -/
def nV (l : List UInt8) : Int := match numOf l with | some n => n | none => 0
def nB (l : List UInt8) : Bool := (numOf l).isSome
theorem num_some {l : List UInt8} {n : Nat} (h : numOf l = some n) : nV l = n ∧ nB l = true := by unfold nV nB; rw [h]; exact ⟨rfl, rfl⟩
theorem num_none {l : List UInt8} (h : numOf l = none) : nV l = 0 ∧ nB l = false := by unfold nV nB; rw [h]; exact ⟨rfl, rfl⟩
theorem num_ok {l : List UInt8} {v : Int} (h : Lib.parseIntB 64 l = .ok v) (hi : Lib.itoa v = l) (h0 : 0 ≤ v) (h1 : v ≤ 39) : nV l = v ∧ nB l = true := by
  obtain ⟨n, rfl⟩ : ∃ n : Nat, v = n := ⟨v.toNat, by omega⟩
  rw [itoa_dec _ h0 (by omega)] at hi
  have : numOf l = some n := by rw [← hi]; exact numOf_dec ⟨n, by omega⟩
  exact num_some this
theorem num_no {l : List UInt8} (h : ∀ v, Lib.parseIntB 64 l = .ok v → ¬ (Lib.itoa v = l ∧ 0 ≤ v ∧ v ≤ 39)) : nV l = 0 ∧ nB l = false := by
  apply num_none
  cases hq : numOf l with
  | none => rfl
  | some n =>
    exfalso
    obtain ⟨h1, h2⟩ := numOf_some hq
    exact h _ (parse_of hq) ⟨by rw [itoa_dec _ (by omega) (by omega), h2]; rfl, by omega, by omega⟩

/-- spec's way. -/
def dv (l : List UInt8) : Nat → Int
  | 0 => 0
  | k + 1 => 10 * dv l k + (bytW l k - 48)
def dig (l : List UInt8) (j : Nat) : Bool := decide (48 ≤ bytW l j) && decide (bytW l j ≤ 57)
def sOk (l : List UInt8) : Bool := (decide (l.length ≠ 0) && decide (l.length ≤ 9) && !(decide (bytW l 0 = 48) && decide (1 < l.length))) && (List.range l.length).all (dig l)
theorem sOk_dec : ∀ n : Fin 40, sOk (decN n.1) = true ∧ dv (decN n.1) (decN n.1).length = (n.1 : Int) := by decide +kernel
theorem one_digit : ∀ d : Fin 10, numOf [UInt8.ofNat (48 + d.1)] = some d.1 := by decide +kernel
theorem two_digit : ∀ d e : Fin 10, 1 ≤ d.1 → 10 * d.1 + e.1 < 40 → numOf [UInt8.ofNat (48 + d.1), UInt8.ofNat (48 + e.1)] = some (10 * d.1 + e.1) := by decide +kernel
theorem dig_at {l : List UInt8} (h : (List.range l.length).all (dig l) = true) (j : Nat) (hj : j < l.length) : 48 ≤ bytW l j ∧ bytW l j ≤ 57 := by
  have := List.all_eq_true.1 h j (List.mem_range.2 hj)
  unfold dig at this
  simpa using this
theorem dv_bd {l : List UInt8} (h : (List.range l.length).all (dig l) = true) : ∀ k, k ≤ l.length → k ≤ 9 → 0 ≤ dv l k ∧ dv l k < 10 ^ k
  | 0, _, _ => by simp [dv]
  | k + 1, hk, h9 => by
    obtain ⟨h0, h1⟩ := dv_bd h k (by omega) (by omega)
    have hd := dig_at h k (by omega)
    simp only [dv]
    have : (10 : Int) ^ (k + 1) = 10 * 10 ^ k := by rw [Int.pow_succ, Int.mul_comm]
    rw [this]
    omega
theorem dv_mono {l : List UInt8} (h : (List.range l.length).all (dig l) = true) {k : Nat} (hk0 : 100 ≤ dv l 3) : ∀ m, 3 + m ≤ l.length → 100 ≤ dv l (3 + m)
  | 0, _ => hk0
  | m + 1, hm => by
    have h1 := dv_mono h (k := k) hk0 m (by omega)
    have hd := dig_at h (3 + m) (by omega)
    show 100 ≤ 10 * dv l (3 + m) + (bytW l (3 + m) - 48)
    omega
theorem u8_of (b : UInt8) (h : 48 ≤ (b.toNat : Int) ∧ (b.toNat : Int) ≤ 57) : ∃ d : Fin 10, b = UInt8.ofNat (48 + d.1) ∧ (d.1 : Int) = (b.toNat : Int) - 48 := by
  refine ⟨⟨b.toNat - 48, by omega⟩, ?_, by simp only; omega⟩
  have : 48 + (b.toNat - 48) = b.toNat := by omega
  simp only [this, UInt8.ofNat_toNat]
theorem num_spec {l : List UInt8} (h : sOk l = true) : (dv l l.length < 40 → numOf l = some (dv l l.length).toNat) ∧ (40 ≤ dv l l.length → numOf l = none) := by
  have h' := h
  unfold sOk at h
  rw [Bool.and_eq_true] at h
  obtain ⟨h1, hd⟩ := h
  simp only [Bool.and_eq_true, decide_eq_true_eq, Bool.not_eq_true', Bool.and_eq_false_iff, decide_eq_false_iff_not] at h1
  obtain ⟨⟨hl0, hl9⟩, hz⟩ := h1
  constructor
  · intro hlt
    match l, hl0, hl9, hz, hd, hlt with
    | [a], _, _, _, hd, _ =>
      obtain ⟨d, rfl, e⟩ := u8_of a (by simpa [bytW] using dig_at hd 0 (by simp))
      rw [one_digit d]
      congr 1
      simp only [List.length_cons, List.length_nil, dv, bytW, List.getD_cons_zero]
      omega
    | [a, b], _, _, hz, hd, hlt =>
      obtain ⟨d, rfl, e⟩ := u8_of a (by simpa [bytW] using dig_at hd 0 (by simp))
      obtain ⟨d', rfl, e'⟩ := u8_of b (by simpa [bytW] using dig_at hd 1 (by simp))
      simp only [List.length_cons, List.length_nil, dv, bytW, List.getD_cons_zero, List.getD_cons_succ] at hlt hz ⊢
      rw [two_digit d d' (by omega) (by omega)]
      congr 1
      omega
    | a :: b :: c :: r, _, _, hz, hd, hlt =>
      exfalso
      have d0 := dig_at hd 0 (by simp)
      have d1 := dig_at hd 1 (by simp)
      have d2 := dig_at hd 2 (by simp)
      have h3 : 100 ≤ dv (a :: b :: c :: r) 3 := by
        simp only [dv]
        rcases hz with hz | hz
        · omega
        · simp at hz
      have := dv_mono hd (k := 0) h3 r.length (by simp only [List.length_cons]; omega)
      have e : (a :: b :: c :: r).length = 3 + r.length := by simp only [List.length_cons]; omega
      rw [e] at hlt
      omega
  · intro hge
    cases hq : numOf l with
    | none => rfl
    | some n =>
      obtain ⟨hn, rfl⟩ := numOf_some hq
      have := (sOk_dec ⟨n, hn⟩).2
      simp only at this
      omega
theorem num_not {l : List UInt8} (h : sOk l = false) : numOf l = none := by
  cases hq : numOf l with
  | none => rfl
  | some n =>
    obtain ⟨hn, rfl⟩ := numOf_some hq
    rw [(sOk_dec ⟨n, hn⟩).1] at h
    cases h
end Go.Proofs.YtldfogiaccanpaaDoor

/- ReadHoist: plain facts: words read one by one. -/
set_option linter.unusedVariables false
set_option linter.unusedSimpArgs false
namespace Go.Proofs.YtldfogiaccanpaaDoor
open Go.RowKit

/-- A word that begins with an s, and what is left of it. -/
def subW (w : List UInt8) : Bool := decide (0 < w.length) && decide (bytW w 0 = 115)
def restW (w : List UInt8) : List UInt8 := if subW w then w.drop 1 else w
theorem sub_prefix (w : List UInt8) : Lib.hasPrefix w [115] = subW w := by
  cases w with
  | nil => rfl
  | cons b w =>
    unfold Lib.hasPrefix subW
    simp only [List.isPrefixOf, List.length_cons, bytW, List.getD_cons_zero]
    by_cases h : b = 115
    · subst h; simp
    · have h1 : (115 == b) = false := by simp [Ne.symm h]
      have h2 : ¬ ((b.toNat : Int) = 115) := fun e => h (UInt8.toNat_inj.1 (by have : (115 : UInt8).toNat = 115 := rfl; omega))
      rw [h1]; simp [h2]
theorem rest_trim (w : List UInt8) : Lib.trimPrefix w [115] = restW w := by unfold Lib.trimPrefix restW; rw [sub_prefix]; rfl
/-- What a word means. -/
def tok (w : List UInt8) : Option Int :=
  if w = [47] then some (-10) else match numOf (restW w) with
  | none => none
  | some n => if subW w then (if 1 ≤ n ∧ n ≤ 4 then some (-(n : Int)) else none) else some (n : Int)
theorem tok_slash {w : List UInt8} (h : w = [47]) : tok w = some (-10) := by unfold tok; rw [if_pos h]
theorem tok_none {w : List UInt8} (h : w ≠ [47]) (hn : numOf (restW w) = none) : tok w = none := by unfold tok; rw [if_neg h, hn]
theorem tok_plain {w : List UInt8} {n : Nat} (h : w ≠ [47]) (hn : numOf (restW w) = some n) (hs : subW w = false) : tok w = some (n : Int) := by unfold tok; rw [if_neg h, hn, hs]; rfl
theorem tok_sub {w : List UInt8} {n : Nat} (h : w ≠ [47]) (hn : numOf (restW w) = some n) (hs : subW w = true) (h1 : 1 ≤ n ∧ n ≤ 4) : tok w = some (-(n : Int)) := by unfold tok; rw [if_neg h, hn, hs]; simp [h1]
theorem tok_sub_no {w : List UInt8} {n : Nat} (h : w ≠ [47]) (hn : numOf (restW w) = some n) (hs : subW w = true) (h1 : ¬ (1 ≤ n ∧ n ≤ 4)) : tok w = none := by unfold tok; rw [if_neg h, hn, hs]; simp only [if_true, if_neg h1]
theorem tok_bd {w : List UInt8} {x : Int} (h : tok w = some x) : -10 ≤ x ∧ x ≤ 39 := by
  unfold tok at h
  split at h
  · cases h; omega
  · split at h
    · cases h
    · rename_i n hn
      have := (numOf_some hn).1
      split at h
      · split at h
        · cases h; omega
        · cases h
      · cases h; omega
theorem tok_empty : tok [] = none := by decide +kernel
theorem tok_ne {w : List UInt8} {x : Int} (h : tok w = some x) : 1 ≤ w.length := by
  cases w with
  | nil => rw [tok_empty] at h; cases h
  | cons b w => simp
/-- The first k words read. -/
def toks (ws : List (List UInt8)) : Nat → Option (List Int)
  | 0 => some []
  | k + 1 => match toks ws k with
    | none => none
    | some h => match tok (ws.getD k []) with
      | none => none
      | some x => some (h ++ [x])
theorem toks_step {ws : List (List UInt8)} {k : Nat} {h : List Int} {x : Int} (h1 : toks ws k = some h) (h2 : tok (ws.getD k []) = some x) : toks ws (k + 1) = some (h ++ [x]) := by simp only [toks, h1, h2]
theorem toks_stop {ws : List (List UInt8)} {k : Nat} {h : List Int} (h1 : toks ws k = some h) (h2 : tok (ws.getD k []) = none) : toks ws (k + 1) = none := by simp only [toks, h1, h2]
theorem toks_up {ws : List (List UInt8)} {k : Nat} (h : toks ws k = none) : ∀ {n : Nat}, k ≤ n → toks ws n = none
  | 0, hk => by obtain rfl : k = 0 := by omega
                exact h
  | n + 1, hk => by
    rcases Nat.lt_or_eq_of_le hk with hk | rfl
    · simp only [toks, toks_up h (Nat.le_of_lt_succ hk)]
    · exact h
theorem toks_back {ws : List (List UInt8)} {n : Nat} {h : List Int} (h1 : toks ws (n + 1) = some h) : ∃ g x, toks ws n = some g ∧ tok (ws.getD n []) = some x ∧ h = g ++ [x] := by
  simp only [toks] at h1
  split at h1
  · cases h1
  · rename_i g hg
    split at h1
    · cases h1
    · rename_i x hx
      exact ⟨g, x, hg, hx, (Option.some.inj h1).symm⟩
theorem toks_len {ws : List (List UInt8)} : ∀ {k : Nat} {h : List Int}, toks ws k = some h → h.length = k
  | 0, h, e => by cases e; rfl
  | k + 1, h, e => by
    obtain ⟨g, x, hg, hx, rfl⟩ := toks_back e
    rw [List.length_append, toks_len hg]; rfl
theorem toks_bd {ws : List (List UInt8)} : ∀ {k : Nat} {h : List Int}, toks ws k = some h → ∀ n ∈ h, -10 ≤ n ∧ n ≤ 39
  | 0, h, e => by cases e; simp
  | k + 1, h, e => by
    obtain ⟨g, x, hg, hx, rfl⟩ := toks_back e
    intro n hn
    rcases List.mem_append.1 hn with hn | hn
    · exact toks_bd hg n hn
    · obtain rfl := List.mem_singleton.1 hn
      exact tok_bd hx
theorem toks_room {ws : List (List UInt8)} : ∀ {k : Nat} {h : List Int}, toks ws k = some h → k ≤ ws.length → 2 * k ≤ ((ws.take k).map (fun w => w.length + 1)).sum
  | 0, h, e, _ => by simp
  | k + 1, h, e, hk => by
    obtain ⟨g, x, hg, hx, rfl⟩ := toks_back e
    have ih := toks_room hg (by omega)
    have hne := tok_ne hx
    rw [List.take_add_one, List.getElem?_eq_getElem (by omega), List.map_append, List.sum_append]
    rw [List.getD_eq_getElem?_getD, List.getElem?_eq_getElem (by omega)] at hne
    simp only [Option.getD_some] at hne
    simp only [Option.toList_some, List.map_cons, List.map_nil, List.sum_cons, List.sum_nil]
    omega
theorem toks_small {l : List UInt8} {h : List Int} (e : toks (cutW l) (cutW l).length = some h) : 2 * h.length ≤ l.length + 1 := by
  have h1 := toks_room e (Nat.le_refl _)
  rw [List.take_length, cutW_sum] at h1
  rw [toks_len e]; exact h1
/-- What ReadHoist answers. -/
def rhO (ws : List (List UInt8)) : Option (List Int) := match toks ws ws.length with
  | none => none
  | some h => if hOk h then some h else none
def rhL (ws : List (List UInt8)) : List Int := (rhO ws).getD []
def rhC (ws : List (List UInt8)) : Int := if (rhO ws).isSome then 0 else 5
theorem rh_none {ws : List (List UInt8)} {k : Nat} (h : toks ws k = none) (hk : k ≤ ws.length) : rhL ws = [] ∧ rhC ws = 5 := by
  unfold rhL rhC rhO; rw [toks_up h hk]; exact ⟨rfl, rfl⟩
theorem rh_bad {ws : List (List UInt8)} {h : List Int} (e : toks ws ws.length = some h) (hb : hOk h = false) : rhL ws = [] ∧ rhC ws = 5 := by
  unfold rhL rhC rhO; rw [e]; simp only [hb]; exact ⟨rfl, rfl⟩
theorem rh_good {ws : List (List UInt8)} {h : List Int} (e : toks ws ws.length = some h) (hb : hOk h = true) : rhL ws = h ∧ rhC ws = 0 := by
  unfold rhL rhC rhO; rw [e]; simp only [hb]; exact ⟨rfl, rfl⟩
theorem rh_long {ws : List (List UInt8)} (h8 : 8 < ws.length) : rhL ws = [] ∧ rhC ws = 5 := by
  cases e : toks ws ws.length with
  | none => exact rh_none e (Nat.le_refl _)
  | some h =>
    refine rh_bad e ?_
    cases hb : hOk h with
    | false => rfl
    | true => have := (hOk_len hb).2; have := toks_len e; omega
theorem rh_bd (ws : List (List UInt8)) : (rhL ws).length ≤ 8 ∧ ∀ n ∈ rhL ws, -128 ≤ n ∧ n ≤ 127 := by
  cases e : toks ws ws.length with
  | none => rw [(rh_none e (Nat.le_refl _)).1]; simp
  | some h =>
    cases hb : hOk h with
    | false => rw [(rh_bad e hb).1]; simp
    | true =>
      rw [(rh_good e hb).1]
      exact ⟨(hOk_len hb).2, fun n hn => by have := toks_bd e n hn; omega⟩
theorem wrap_i8 (n : Int) (h0 : -128 ≤ n) (h1 : n ≤ 127) : IntKind.wrap .i8 n = n := IntWalk.i8_in n (by omega)
end Go.Proofs.YtldfogiaccanpaaDoor

/- Contracts: spec's side of ReadHoist: a text cut at its blanks, a number read. -/
set_option linter.unusedVariables false
set_option linter.unusedSimpArgs false
namespace Go.Proofs.YtldfogiaccanpaaDoor
open Go.RowKit

theorem str_some {u : ByteArray} (h : 0 < u.size) : u.toList.isEmpty = false := by
  cases hq : u.toList.isEmpty
  · rfl
  · exfalso
    rw [List.isEmpty_iff, ByteArray.toList_eq] at hq
    have : u.size = u.data.toList.length := by rw [Array.length_toList]; rfl
    rw [hq] at this
    have h2 : ([] : List UInt8).length = 0 := rfl
    omega
theorem str_zero {u : ByteArray} (h : u.size = 0) : u = ⟨#[]⟩ := by
  apply ByteArray.ext
  apply Array.toList_inj.1
  have : u.size = u.data.toList.length := by rw [Array.length_toList]; rfl
  exact List.length_eq_zero_iff.1 (by omega)
theorem str_len (s : ByteArray) : s.data.toList.length = s.size := by rw [Array.length_toList]; rfl
def sV (l : List UInt8) : Int := if sOk l then dv l l.length else 0
theorem sV_no {l : List UInt8} (h : sOk l = false) : sV l = 0 := by unfold sV; rw [h]; rfl
theorem sV_yes {l : List UInt8} (h : sOk l = true) : sV l = dv l l.length := by unfold sV; rw [h]; rfl
theorem dv_upto {l : List UInt8} : ∀ {k : Nat}, (∀ j, j < k → dig l j = true) → k ≤ 9 → 0 ≤ dv l k ∧ dv l k < 10 ^ k
  | 0, _, _ => by simp [dv]
  | k + 1, h, h9 => by
    obtain ⟨h0, h1⟩ := dv_upto (fun j hj => h j (Nat.lt_succ_of_lt hj)) (by omega : k ≤ 9)
    have hd := h k (by omega)
    unfold dig at hd
    simp only [Bool.and_eq_true, decide_eq_true_eq] at hd
    simp only [dv]
    have : (10 : Int) ^ (k + 1) = 10 * 10 ^ k := by rw [Int.pow_succ, Int.mul_comm]
    rw [this]
    omega
theorem dv_big {l : List UInt8} {k : Nat} (h : ∀ j, j < k → dig l j = true) (h9 : k ≤ 9) : 0 ≤ dv l k ∧ dv l k < 1000000000 := by
  obtain ⟨h0, h1⟩ := dv_upto h h9
  have : (10 : Nat) ^ k ≤ 10 ^ 9 := Nat.pow_le_pow_right (by decide) h9
  have h2 : (10 : Int) ^ k ≤ 10 ^ 9 := by exact_mod_cast this
  have h3 : (10 : Int) ^ 9 = 1000000000 := by decide
  omega
set_option maxRecDepth 100000 in
set_option maxHeartbeats 1000000 in
theorem l01Number_any (s : ByteArray) (hs : s.size ≤ 1048576) (w : World) :
    Calls Tryd.prog 10 #[.string s] w fun e w' => e = .returned (.tuple #[.int .i64 (sV s.data.toList), .bool (sOk s.data.toList)]) ∧ w = w' := by
  have HL := As.mk (str_len s)
  by_cases h0 : s.size = 0
  · obtain rfl := str_zero h0
    go_enter Tryd.func10, Tryd.ntmps10
    go_wp2
    go_ret2
    exact ⟨rfl, rfl⟩
  have he := str_some (u := s) (by omega)
  by_cases h9 : 9 < s.size
  · have hb : sOk s.data.toList = false := by
      unfold sOk
      have : decide (s.data.toList.length ≤ 9) = false := by rw [decide_eq_false_iff_not]; have := HL.out; omega
      rw [this]; simp
    rw [sV_no hb, hb]
    have h9' : (9 : Int) < ((s.size : Nat) : Int) := by omega
    go_enter Tryd.func10, Tryd.ntmps10
    go_wp2
    go_ret2
    exact ⟨rfl, rfl⟩
  have h9' : ¬ ((9 : Int) < ((s.size : Nat) : Int)) := by omega
  have hpos : 0 < s.size := Nat.pos_of_ne_zero h0
  have hb0 := bytW_get s 0 hpos
  have hbd0 := bytW_bd s.data.toList 0
  by_cases hz : bytW s.data.toList 0 = 48 ∧ 1 < s.size
  · have hb : sOk s.data.toList = false := by
      unfold sOk
      have h1 : decide (bytW s.data.toList 0 = 48) = true := decide_eq_true hz.1
      have h2 : decide (1 < s.data.toList.length) = true := decide_eq_true (by have := HL.out; have := hz.2; omega)
      rw [h1, h2]; simp
    rw [sV_no hb, hb]
    rw [hz.1] at hb0
    have h1' : (1 : Int) < ((s.size : Nat) : Int) := by omega
    have h0' : (0 : Int) < ((s.size : Nat) : Int) := by omega
    have h0'' : 0 < s.size := by omega
    clear hbd0
    go_enter Tryd.func10, Tryd.ntmps10
    go_wp2
    go_ret2
    exact ⟨rfl, rfl⟩
  have HS : As (∀ (q : Bool), (List.range s.data.toList.length).all (dig s.data.toList) = q → sOk s.data.toList = q) := ⟨fun q hq => by
    unfold sOk
    rw [hq]
    have hsz := HL.out
    have h1 : decide (s.data.toList.length ≠ 0) = true := decide_eq_true (by omega)
    have h2 : decide (s.data.toList.length ≤ 9) = true := decide_eq_true (by omega)
    rw [h1, h2]
    by_cases g : bytW s.data.toList 0 = 48
    · have : decide (1 < s.data.toList.length) = false := by rw [decide_eq_false_iff_not]; exact fun e => hz ⟨g, by omega⟩
      rw [this]; simp
    · have : decide (bytW s.data.toList 0 = 48) = false := decide_eq_false g
      rw [this]; simp⟩
  have hbt := As.mk (fun k h => bytW_get s k h)
  suffices key : ∀ (x0 : Int), bytW s.data.toList 0 = x0 → (x0 = 48 → ¬ 1 < s.size) → Calls Tryd.prog 10 #[.string s] w fun e w' => e = .returned (.tuple #[.int .i64 (sV s.data.toList), .bool (sOk s.data.toList)]) ∧ w = w' from key _ rfl (fun e h => hz ⟨e, h⟩)
  intro x0 hx0 hz2
  rw [hx0] at hb0 hbd0
  have h0' : (0 : Int) < ((s.size : Nat) : Int) := by omega
  have h0'' : 0 < s.size := by omega
  clear hz hx0
  by_cases h48 : x0 = 48
  all_goals
    first
      | (have h1' : ¬ ((1 : Int) < ((s.size : Nat) : Int)) := by have := hz2 h48; omega
         have hq : (x0 == 48) = true := by simp [h48]
         clear hz2 h48)
      | (have hq : (x0 == 48) = false := by simp [h48]
         clear hz2 h48)
    go_enter Tryd.func10, Tryd.ntmps10
    go_wp2
    go_loop [4, 5] (fun n i => ∃ k : Nat, k ≤ s.size ∧ i = .int .i64 k ∧ n = .int .i64 (dv s.data.toList k) ∧ As (∀ j, j < k → dig s.data.toList j = true)) (fun _ i => s.size - (intOf i).toNat)
    case atStart => exact ⟨0, by omega, rfl, rfl, ⟨fun j hj => by omega⟩⟩
    case round =>
      obtain ⟨k, hk, rfl, rfl, H⟩ := hrel
      have hbg := dv_big H.out (by omega)
      by_cases hlt : k < s.size
      · have hlt' : (k : Int) < ((s.size : Nat) : Int) := by omega
        have hbk := hbt.out k hlt
        have hbd := bytW_bd s.data.toList k
        have hdv : As (dv s.data.toList (k + 1) = 10 * dv s.data.toList k + (bytW s.data.toList k - 48)) := ⟨rfl⟩
        have hdg : As (dig s.data.toList k = (decide (48 ≤ bytW s.data.toList k) && decide (bytW s.data.toList k ≤ 57))) := ⟨rfl⟩
        have hall : As (dig s.data.toList k = false → (List.range s.data.toList.length).all (dig s.data.toList) = false) := ⟨fun h => by
          rw [List.all_eq_false]
          exact ⟨k, List.mem_range.2 (by have := HL.out; omega), by rw [h]; simp⟩⟩
        generalize bytW s.data.toList k = x at *
        by_cases hl : x < 48
        · have hno := As.mk (HS.out false (hall.out (by rw [hdg.out, decide_eq_false (by omega)]; rfl)))
          go_wp2
          go_ret2
          exact ⟨by rw [sV_no hno.out, hno.out]; rfl, rfl⟩
        · by_cases hg : 57 < x
          · have hno := As.mk (HS.out false (hall.out (by rw [hdg.out, decide_eq_false (show ¬ x ≤ 57 by omega)]; simp)))
            go_wp2
            go_ret2
            exact ⟨by rw [sV_no hno.out, hno.out]; rfl, rfl⟩
          · have hw : IntKind.wrap .u8 (x - 48) = x - 48 := IntWalk.u8_in _ (by omega)
            have hyes := As.mk (show dig s.data.toList k = true by rw [hdg.out, decide_eq_true (show 48 ≤ x by omega), decide_eq_true (show x ≤ 57 by omega)]; rfl)
            go_wp2
            go_round
            case rel => exact ⟨k + 1, by omega, by go_num, by rw [hdv.out], ⟨fun j hj => by
              by_cases e : j = k
              · subst e; exact hyes.out
              · exact H.out j (by omega)⟩⟩
            case measure => simp [intOf]; omega
      · obtain rfl : k = s.size := by omega
        have hyes := As.mk (HS.out true (by rw [List.all_eq_true]; intro j hj; exact H.out j (by have := List.mem_range.1 hj; have := HL.out; omega)))
        have hv := As.mk (show sV s.data.toList = dv s.data.toList s.size by rw [sV_yes hyes.out, HL.out])
        go_wp2
        go_ret2
        exact ⟨by rw [hv.out, hyes.out]; rfl, rfl⟩
end Go.Proofs.YtldfogiaccanpaaDoor

/- Contracts: spec.l01Split at blanks. -/
set_option linter.unusedVariables false
set_option linter.unusedSimpArgs false
namespace Go.Proofs.YtldfogiaccanpaaDoor
open Go.RowKit

theorem cut_part (s : ByteArray) (a b : Nat) (hab : a ≤ b) (hb : b ≤ s.size) : (s.extract a b).data.toList = (s.data.toList.drop a).take (b - a) := by
  rw [ByteArray.data_extract, Array.toList_extract, List.extract_eq_take_drop]
theorem cut_free {l : List UInt8} {a b : Nat} (hb : b ≤ l.length) (h : ∀ j, a ≤ j → j < b → bytW l j ≠ 32) : ∀ c ∈ (l.drop a).take (b - a), c ≠ 32 := by
  intro c hc e
  obtain ⟨i, hi, rfl⟩ := List.getElem_of_mem hc
  rw [List.length_take, List.length_drop] at hi
  rw [List.getElem_take, List.getElem_drop] at e
  refine h (a + i) (by omega) (by omega) ?_
  unfold bytW
  rw [List.getD_eq_getElem?_getD, List.getElem?_eq_getElem (by omega), Option.getD_some, e]; rfl
theorem cut_next {l : List UInt8} {a b : Nat} (hab : a ≤ b) (hb : b < l.length) (h : ∀ j, a ≤ j → j < b → bytW l j ≠ 32) (h32 : bytW l b = 32) : cutW (l.drop a) = (l.drop a).take (b - a) :: cutW (l.drop (b + 1)) := by
  have e : l.drop a = (l.drop a).take (b - a) ++ 32 :: l.drop (b + 1) := by
    have h1 : (l.drop a).drop (b - a) = 32 :: l.drop (b + 1) := by
      rw [List.drop_drop, show a + (b - a) = b by omega, List.drop_eq_getElem_cons hb]
      congr 1
      unfold bytW at h32
      rw [List.getD_eq_getElem?_getD, List.getElem?_eq_getElem hb, Option.getD_some] at h32
      apply UInt8.toNat_inj.1
      have : (32 : UInt8).toNat = 32 := rfl
      omega
    rw [← h1, List.take_append_drop]
  conv => lhs; rw [e]
  exact cutW_hit _ _ (cut_free (by omega) h)
theorem cut_last {l : List UInt8} {a : Nat} (h : ∀ j, a ≤ j → j < l.length → bytW l j ≠ 32) : cutW (l.drop a) = [l.drop a] := by
  apply cutW_miss
  have h1 := cut_free (l := l) (a := a) (Nat.le_refl _) h
  rwa [List.take_of_length_le (by rw [List.length_drop]; omega)] at h1
set_option maxRecDepth 100000 in
set_option maxHeartbeats 2000000 in
theorem l01Split_any (s : ByteArray) (hs : s.size ≤ 1048576) (w : World) :
    Calls Tryd.prog 9 #[.string s, .int .u8 32] w fun e w' => (∃ v, e = .returned v ∧ Own w' w.heap.size 9 v (strs (wordsB s))) ∧ Below w.heap.size w w' := by
  have HL := As.mk (str_len s)
  have hbt := As.mk (fun k h => bytW_get s k h)
  have O0 := Own.lit w w.heap.size 9 [] (Nat.le_refl _) (by simp)
  have b0 := bl_new (Below.refl _ w) (.cells ([] : List Value).toArray 9)
  go_enter Tryd.func9, Tryd.ntmps9
  go_wp2
  go_loopw [5, 6, 7] (fun o b i wr => ∃ (a k : Nat) (done : List ByteArray), k ≤ s.size ∧ a ≤ k ∧ i = .int .i64 k ∧ b = .int .i64 a ∧ Own wr w.heap.size 9 o (strs done) ∧ As (cutW s.data.toList = done.map (·.data.toList) ++ cutW (s.data.toList.drop a)) ∧ As (∀ j, a ≤ j → j < k → bytW s.data.toList j ≠ 32) ∧ done.length ≤ k ∧ Below w.heap.size w wr) (fun _ _ i _ => s.size - (intOf i).toNat)
  case atStart => exact ⟨0, 0, [], by omega, by omega, rfl, rfl, O0, ⟨rfl⟩, ⟨fun j hj h => by omega⟩, by simp, b0⟩
  case round =>
    obtain ⟨a, k, done, hk, hak, rfl, rfl, HO, HC, HF, hdl, hb⟩ := hrel
    clear O0 b0
    have hsl := strs_length done
    by_cases hlt : k < s.size
    · have hlt' : (k : Int) < ((s.size : Nat) : Int) := by omega
      have hbk := hbt.out k hlt
      have hbd := bytW_bd s.data.toList k
      have hx : As (∀ x, bytW s.data.toList k = x → (x = 32 → cutW (s.data.toList.drop a) = (s.data.toList.drop a).take (k - a) :: cutW (s.data.toList.drop (k + 1))) ∧ (x ≠ 32 → ∀ j, a ≤ j → j < k + 1 → bytW s.data.toList j ≠ 32)) := ⟨fun x e => ⟨fun h => cut_next hak (by have := HL.out; omega) HF.out (by omega), fun h j h1 h2 => by
        by_cases g : j = k
        · subst g; omega
        · exact HF.out j h1 (by omega)⟩⟩
      have hx2 := As.mk (hx.out _ rfl)
      generalize bytW s.data.toList k = x at *
      clear hx
      by_cases h32 : x = 32
      · have hn := As.mk (hx2.out.1 h32)
        subst h32
        clear hx2
        go_wp2_with (at_builtin; refine app1 (w0 := w) (w.heap.size) rfl (.tmp 20) (.tmp 25) 29 9 (.string ⟨#[]⟩) 16 rfl Tryd.underlying29 info_s rfl (by omega) (_) ((strs done)) (.string (s.extract a k)) rfl rfl rfl HO hb hb.size (by rw [hsl]; omega) ?_)
        rintro v1 w1 O1 hb1 hg1 ho1
        have O2 : Own w1 w.heap.size 9 v1 (strs (done ++ [s.extract a k])) := by unfold strs at O1 ⊢; rw [List.map_append]; exact O1
        clear O1
        go_wp2
        go_roundw
        case rel => exact ⟨k + 1, k + 1, done ++ [s.extract a k], by omega, by omega, by go_num, by go_num, O2, ⟨by rw [HC.out, hn.out, List.map_append, List.append_assoc, List.map_cons, List.map_nil, cut_part s a k hak (by omega)]; rfl⟩, ⟨fun j h1 h2 => by omega⟩, by rw [List.length_append]; simp; omega, hb1⟩
        case measure => simp [intOf]; omega
      · have hn := As.mk (hx2.out.2 h32)
        have hq : (x == 32) = false := by simp [h32]
        clear hx2 h32
        go_wp2
        go_roundw
        case rel => exact ⟨a, k + 1, done, by omega, by omega, by go_num, rfl, HO, HC, hn, by omega, hb⟩
        case measure => simp [intOf]; omega
    · obtain rfl : k = s.size := by omega
      have hl := As.mk (cut_last (l := s.data.toList) (a := a) (fun j h1 h2 => HF.out j h1 (by have := HL.out; omega)))
      have hw : As (strs done ++ [.string (s.extract a s.size)] = strs (wordsB s)) := ⟨by
        have : wordsB s = done ++ [s.extract a s.size] := by
          apply bytes_of_lists
          rw [wordsB_data, HC.out, hl.out, List.map_append, List.map_cons, List.map_nil, cut_part s a s.size hak (by omega), List.take_of_length_le (by rw [List.length_drop]; have := HL.out; omega)]
        rw [this]; unfold strs; rw [List.map_append]; rfl⟩
      go_wp2_with (at_builtin; refine app1 (w0 := w) (w.heap.size) rfl (.tmp 29) (.tmp 33) 29 9 (.string ⟨#[]⟩) 16 rfl Tryd.underlying29 info_s rfl (by omega) (_) ((strs done)) (.string (s.extract a s.size)) rfl rfl rfl HO hb hb.size (by rw [hsl]; omega) ?_)
      rintro v1 w1 O1 hb1 hg1 ho1
      rw [hw.out] at O1
      go_wp2
      go_ret
      exact ⟨⟨_, rfl, O1⟩, hb1⟩
end Go.Proofs.YtldfogiaccanpaaDoor

/- ReadHoist: plain facts of words. -/
set_option linter.unusedVariables false
set_option linter.unusedSimpArgs false
namespace Go.Proofs.YtldfogiaccanpaaDoor
open Go.RowKit

theorem word_le {l x : List UInt8} (h : x ∈ cutW l) : x.length ≤ l.length := by
  have hs := cutW_sum l
  have key : ∀ (ws : List (List UInt8)), x ∈ ws → x.length + 1 ≤ (ws.map (fun w => w.length + 1)).sum := by
    intro ws
    induction ws with
    | nil => intro h; cases h
    | cons y ys ih =>
      intro h
      simp only [List.map_cons, List.sum_cons]
      rcases List.mem_cons.1 h with rfl | h
      · omega
      · have := ih h; omega
  have := key _ h
  omega
theorem words_len (s : ByteArray) : (wordsB s).length = (cutW s.data.toList).length := by unfold wordsB; simp
theorem words_count (s : ByteArray) : (cutW s.data.toList).length ≤ s.size + 1 := by
  have hs := cutW_sum s.data.toList
  have key : ∀ (ws : List (List UInt8)), ws.length ≤ (ws.map (fun w => w.length + 1)).sum := by
    intro ws
    induction ws with
    | nil => simp
    | cons y ys ih => simp only [List.map_cons, List.sum_cons, List.length_cons]; omega
  have := key (cutW s.data.toList)
  have := str_len s
  omega
theorem word_at (s : ByteArray) (k : Nat) (hk : k < (wordsB s).length) : (nthS (wordsB s) k).data.toList = (cutW s.data.toList).getD k [] ∧ (nthS (wordsB s) k).size ≤ s.size := by
  have h1 : (nthS (wordsB s) k).data.toList = (cutW s.data.toList).getD k [] := by
    have hk2 : k < (cutW s.data.toList).length := by rw [← words_len]; exact hk
    have e : wordsB s = (cutW s.data.toList).map fun l => (⟨l.toArray⟩ : ByteArray) := rfl
    unfold nthS
    rw [e, List.getD_eq_getElem?_getD, List.getElem?_map, List.getD_eq_getElem?_getD, List.getElem?_eq_getElem hk2]
    rfl
  refine ⟨h1, ?_⟩
  have h2 : (cutW s.data.toList).getD k [] ∈ cutW s.data.toList := by
    rw [List.getD_eq_getElem?_getD, List.getElem?_eq_getElem (by rw [← words_len]; exact hk)]
    exact List.getElem_mem _
  have := word_le h2
  rw [← h1, str_len, str_len] at this
  exact this
theorem words_max (s : ByteArray) (hs : s.size ≤ 1048576) : ∀ u ∈ wordsB s, u.size ≤ maxLen := by
  intro u hu
  obtain ⟨k, hk, rfl⟩ := List.getElem_of_mem hu
  have := (word_at s k hk).2
  rw [nthS_get _ _ hk] at this
  simp only [maxLen]; omega
theorem str_ne2 {u v : ByteArray} (h : u ≠ v) : (u.toList == v.toList) = false := by
  cases hq : u.toList == v.toList
  · rfl
  · exfalso
    rw [beq_iff_eq, ByteArray.toList_eq, ByteArray.toList_eq] at hq
    exact h (ByteArray.ext (Array.toList_inj.1 hq))
theorem str_ne47 {u : ByteArray} (h : u ≠ ⟨#[47]⟩) : u.toList ≠ [47] := by
  intro e
  rw [ByteArray.toList_eq] at e
  exact h (ByteArray.ext (Array.toList_inj.1 e))
theorem rest_sub {u : ByteArray} (h : subW u.data.toList = true) : (u.extract 1 u.size).data.toList = restW u.data.toList := by
  unfold restW
  rw [if_pos h]
  by_cases h0 : 1 ≤ u.size
  · rw [cut_part u 1 u.size h0 (Nat.le_refl _), List.take_of_length_le (by rw [List.length_drop, str_len]; omega)]
  · rw [str_zero (u := u) (by omega)]; rfl
theorem sub_true {u : ByteArray} (h : subW u.data.toList = true) : 0 < u.size ∧ bytW u.data.toList 0 = 115 := by
  unfold subW at h
  simp only [Bool.and_eq_true, decide_eq_true_eq, str_len] at h
  exact h
theorem sub_false {u : ByteArray} (h : subW u.data.toList = false) (h0 : 0 < u.size) : bytW u.data.toList 0 ≠ 115 := by
  unfold subW at h
  rw [decide_eq_true (by rw [str_len]; exact h0)] at h
  simpa using h
theorem num_cases (l : List UInt8) : (sOk l = false ∧ numOf l = none) ∨ (sOk l = true ∧ 40 ≤ sV l ∧ numOf l = none) ∨ (∃ n : Nat, sOk l = true ∧ sV l = n ∧ n < 40 ∧ numOf l = some n) := by
  cases h : sOk l
  · exact .inl ⟨rfl, num_not h⟩
  · obtain ⟨h1, h2⟩ := num_spec h
    rw [sV_yes h]
    by_cases hlt : dv l l.length < 40
    · refine .inr (.inr ⟨(dv l l.length).toNat, rfl, ?_, ?_, h1 hlt⟩)
      · unfold sOk at h
        rw [Bool.and_eq_true] at h
        obtain ⟨hl, hd⟩ := h
        simp only [Bool.and_eq_true, decide_eq_true_eq] at hl
        have := (dv_upto (l := l) (k := l.length) (fun j hj => List.all_eq_true.1 hd j (List.mem_range.2 hj)) hl.1.2).1
        omega
      · omega
    · exact .inr (.inl ⟨rfl, by omega, h2 (by omega)⟩)
end Go.Proofs.YtldfogiaccanpaaDoor

/- Laws over slices: what stays while a slice is marked. -/
set_option linter.unusedVariables false
namespace Go.Proofs.YtldfogiaccanpaaDoor
open Go.RowKit
section
variable {w w' w0 : World} {base : Nat} {e : TypeId} {v : Value} {cs : List Value} {k : IntKind} {xs : List Int}
theorem Blk.ownN {b : Nat} (h : Blk w b (xs.map (Value.int k)) e) (hb : base ≤ b) (hm : xs.length ≤ 9223372036854775807) : Own w base e (.slice (Option.some ⟨b, 0, none⟩) xs.length xs.length) (xs.map (Value.int k)) := by
  have := h.own hb (by rw [List.length_map]; exact hm)
  rwa [List.length_map] at this
theorem Blk.grown {b g n c : Nat} (h : Blk w b cs e) (hg : w.grownBy w' (Value.slice (Option.some ⟨g, 0, none⟩) n c).ownBlock) (hne : b ≠ g) : Blk w' b cs e :=
  (hg.block b h.lt (by simp only [Value.ownBlock, ne_eq, Option.some.injEq]; exact hne)).trans h
theorem Own.sl' {A : Option Addr} {n c : Nat} (h : Own w base e (.slice A n c) (xs.map (Value.int k))) : Sl k w A xs := by
  obtain ⟨A', c', hv, S⟩ := h.sl
  simp only [Value.slice.injEq] at hv
  rw [hv.1]; exact S
theorem Own.slN {A : Option Addr} {n c : Nat} {kd : IntKind} {k0 : Int} (h : Own w base e (.slice A n c) ((marks kd k0 n).map (Value.int k))) : Sl k w A (marks kd k0 n) := h.sl'
/-- A slice stays while a block below it is turned. -/
theorem Own.keptBy {g n c : Nat} (h : Own w base e v cs) (hg : w.grownBy w' (Value.slice (some ⟨g, 0, none⟩) n c).ownBlock) (hlt : g < base) : Own w' base e v cs := by
  refine h.grown hg ?_
  cases hv : v.ownBlock with
  | none => exact .inl rfl
  | some k =>
    refine .inr fun e' => ?_
    simp only [Value.ownBlock, Option.some.injEq] at e'
    have := h.ge k hv
    omega
theorem bl_mark {B g n c : Nat} (hb : Below B w0 w) (hB : B ≤ w.heap.size) (hg : w.grownBy w' (Value.slice (some ⟨g, 0, none⟩) n c).ownBlock) (hBg : B ≤ g) : Below B w0 w' :=
  hb.grown hg hB (fun k hk => by simp only [Value.ownBlock, Option.some.injEq] at hk; omega)
end
end Go.Proofs.YtldfogiaccanpaaDoor

/- Contracts: spec.ReadHoist. -/
set_option linter.unusedVariables false
set_option linter.unusedSimpArgs false
namespace Go.Proofs.YtldfogiaccanpaaDoor
open Go.RowKit

set_option maxRecDepth 100000 in
set_option maxHeartbeats 8000000 in
theorem sReadHoist_any (s : ByteArray) (hs : s.size ≤ 1048576) (w : World) :
    Calls Tryd.prog 4 #[.string s] w fun e w' => Gave 31 (i8s (rhL (cutW s.data.toList))) (rhC (cutW s.data.toList)) w.heap.size e w' ∧ Below w.heap.size w w' := by
  have ksp := l01Split_any s hs w
  have hcount := words_count s
  have hwl := words_len s
  have hmax := words_max s hs
  have hwa := As.mk (word_at s)
  have HR := As.mk (fun k h => @rh_none (cutW s.data.toList) k h)
  have HB := As.mk (fun h => @rh_bad (cutW s.data.toList) h)
  have HG := As.mk (fun h => @rh_good (cutW s.data.toList) h)
  have HS := As.mk (fun k h x => @toks_step (cutW s.data.toList) k h x)
  have HT := As.mk (fun k h => @toks_stop (cutW s.data.toList) k h)
  have HN := As.mk (fun k h => @toks_len (cutW s.data.toList) k h)
  have HD := As.mk (fun k h => @toks_bd (cutW s.data.toList) k h)
  generalize cutW s.data.toList = W at *
  generalize wordsB s = ws at *
  obtain ⟨n, hn⟩ : ∃ n, ws.length = n := ⟨_, rfl⟩
  go_enter Tryd.func4, Tryd.ntmps4
  go_wp2_with (fail)
  refine ksp.mono ?_; rintro e w1 ⟨⟨v, rfl, O1⟩, hb1⟩
  obtain ⟨A, c, rfl, S1⟩ := O1.slS hmax
  clear O1 ksp hmax
  rw [hn]
  have O0 := Own.lit w1 w1.heap.size 31 [] (Nat.le_refl _) (by simp)
  have b0 := bl_new (Below.refl _ w1) (.cells ([] : List Value).toArray 31)
  go_wp2_with (fail)
  go_loopw [5, 6] (fun o i wr => ∃ (k : Nat) (h : List Int), k ≤ n ∧ i = .int .i64 k ∧ Own wr w1.heap.size 31 o (i8s h) ∧ As (toks W k = some h) ∧ Below w1.heap.size w1 wr) (fun _ i _ => n - (intOf i).toNat)
  case atStart => exact ⟨0, [], by omega, rfl, O0, ⟨rfl⟩, b0⟩
  case round =>
    obtain ⟨k, h, hk, rfl, HO, HK, hb⟩ := hrel
    clear O0 b0
    have hhl := HN.out k h HK.out
    have hsl := i8s_length h
    by_cases hlt : k < n
    · have hlt' : (k : Int) < (n : Int) := by omega
      obtain ⟨hu1, hu2⟩ := hwa.out k (by omega)
      obtain ⟨b, o, rfl, hr⟩ := (S1.kept hb).2.2 (by omega)
      have c0 := SlS.at hr k (by omega)
      have hst := As.mk (fun x => HS.out k h x HK.out)
      have hsp := As.mk (HT.out k h HK.out)
      have hrn := As.mk (fun e => HR.out (k + 1) e (by omega))
      generalize nthS ws k = u at *
      rw [← hu1] at hst hsp
      clear hu1 hr
      have hbad : As (tok u.data.toList = none → rhL W = [] ∧ rhC W = 5) := ⟨fun e => hrn.out (hsp.out e)⟩
      by_cases hsl' : u = ⟨#[47]⟩
      · subst hsl'
        have hx := As.mk (hst.out _ (tok_slash (w := (⟨#[47]⟩ : ByteArray).data.toList) rfl))
        clear hst hsp hrn hbad
        go_wp2_with (at_builtin; refine app1 (w0 := w1) (w1.heap.size) rfl (.tmp 26) (.tmp 27) 23 31 (.int .i8 0) 1 rfl Tryd.underlying23 info_i8 rfl (by omega) (_) ((i8s h)) (.int .i8 (-10)) rfl rfl rfl HO hb hb.size (by rw [hsl]; omega) ?_)
        rintro v1 w2 O2 hb2 hg2 ho2
        rw [i8s_snoc] at O2
        go_wp2
        go_roundw
        case rel => exact ⟨k + 1, _, by omega, by go_num, O2, hx, hb2⟩
        case measure => simp [intOf]; omega
      · have hne := str_ne47 hsl'
        have hne1 : (u.toList == [47]) = false := by rw [beq_eq_false_iff_ne]; exact hne
        have hne2 : decide (u.toList = [47]) = false := decide_eq_false hne
        have hw47 : As (u.data.toList ≠ [47]) := ⟨fun e => hsl' (ByteArray.ext (Array.toList_inj.1 e))⟩
        clear hsl'
        have fin : ∀ (r : ByteArray), r.size ≤ 1048576 → r.data.toList = restW u.data.toList → ((sOk r.data.toList = false ∧ numOf (restW u.data.toList) = none) ∨ (sOk r.data.toList = true ∧ 40 ≤ sV r.data.toList ∧ numOf (restW u.data.toList) = none) ∨ (∃ n : Nat, sOk r.data.toList = true ∧ sV r.data.toList = n ∧ n < 40 ∧ numOf (restW u.data.toList) = some n)) := fun r _ e => by rw [← e]; exact num_cases _
        cases hsub : subW u.data.toList
        · have hrest : u.data.toList = restW u.data.toList := by unfold restW; rw [hsub]; rfl
          have hnum := fin u (by omega) hrest
          have kn := fun W => l01Number_any u (by omega) W
          have hT := As.mk (fun n h1 => tok_plain (n := n) hw47.out h1 hsub)
          have hT0 := As.mk (fun h1 => tok_none hw47.out h1)
          have hc : (u.size = 0) ∨ (∃ x : Int, 0 < u.size ∧ (x == 115) = false ∧ (0 ≤ x ∧ x ≤ 255) ∧ bytW u.data.toList 0 = x) := by
            by_cases h0 : 0 < u.size
            · exact .inr ⟨_, h0, by rw [beq_eq_false_iff_ne]; exact sub_false hsub h0, bytW_bd _ _, rfl⟩
            · exact .inl (by omega)
          have hg0 := As.mk (bytW_get u 0)
          clear fin hrest
          generalize sOk u.data.toList = ok at *
          generalize sV u.data.toList = nv at *
          generalize numOf (restW u.data.toList) = no at *
          rcases hc with h0 | ⟨x, h0, hx, hxb, hxe⟩
          all_goals
            first
              | (have hz : ¬ ((0 : Int) < ((u.size : Nat) : Int)) := by omega)
              | (have hz : (0 : Int) < ((u.size : Nat) : Int) := by omega
                 have hx0 := hg0.out h0
                 rw [hxe] at hx0)
            rcases hnum with ⟨rfl, h3⟩ | ⟨rfl, h2, h3⟩ | ⟨m, rfl, rfl, h2, h3⟩
            · have hno := As.mk (hbad.out (hT0.out h3))
              clear hT hT0 hbad hst hsp hrn hg0
              go_wp2_with (fail)
              refine (kn _).mono ?_; rintro e w2 ⟨rfl, rfl⟩
              go_wp2_with (fail)
              go_ret2
              rw [hno.out.1, hno.out.2]; exact ⟨⟨_, rfl, by exact Own.lit _ w.heap.size 31 [] (Nat.le_trans hb1.size hb.size) (by simp)⟩, bl_new (bl_call hb1 hb) _⟩
            · have hno := As.mk (hbad.out (hT0.out h3))
              clear hT hT0 hbad hst hsp hrn hg0
              go_wp2_with (fail)
              refine (kn _).mono ?_; rintro e w2 ⟨rfl, rfl⟩
              go_wp2_with (fail)
              go_ret2
              rw [hno.out.1, hno.out.2]; exact ⟨⟨_, rfl, by exact Own.lit _ w.heap.size 31 [] (Nat.le_trans hb1.size hb.size) (by simp)⟩, bl_new (bl_call hb1 hb) _⟩
            · have hx := As.mk (hst.out _ (hT.out m h3))
              have hm2 : (m : Int) < 40 := by omega
              have hwr : IntKind.wrap .i8 (m : Int) = (m : Int) := wrap_i8 _ (by omega) (by omega)
              clear hT hT0 hbad hst hsp hrn hg0
              go_wp2_with (fail)
              refine (kn _).mono ?_; rintro e w2 ⟨rfl, rfl⟩
              go_wp2_with (at_builtin; refine app1 (w0 := w1) (w1.heap.size) rfl (.tmp 63) (.tmp 66) 23 31 (.int .i8 0) 1 rfl Tryd.underlying23 info_i8 rfl (by omega) (_) ((i8s h)) (.int .i8 (m : Int)) rfl rfl rfl HO hb hb.size (by rw [hsl]; omega) ?_)
              rintro v1 w2 O2 hb2 hg2 ho2
              rw [i8s_snoc] at O2
              go_wp2
              go_roundw
              case rel => exact ⟨k + 1, _, by omega, by go_num, O2, hx, hb2⟩
              case measure => simp [intOf]; omega
        · obtain ⟨hpos, h115⟩ := sub_true hsub
          have hrest := rest_sub hsub
          have hz : (0 : Int) < ((u.size : Nat) : Int) := by omega
          have hx0 := bytW_get u 0 hpos
          rw [h115] at hx0
          have hrs : (u.extract 1 u.size).size ≤ 1048576 := by rw [ByteArray.size_extract]; omega
          have hnum := fin (u.extract 1 u.size) hrs hrest
          have kn := fun W => l01Number_any (u.extract 1 u.size) hrs W
          have hT := As.mk (fun n h1 => tok_sub (n := n) hw47.out h1 hsub)
          have hTn := As.mk (fun n h1 => tok_sub_no (n := n) hw47.out h1 hsub)
          have hT0 := As.mk (fun h1 => tok_none hw47.out h1)
          have h1n : 1 ≤ u.size := hpos
          have kin := fun (a : Int) W => l00In_any a 1 4 W
          clear fin hrest hrs
          generalize sOk (u.extract 1 u.size).data.toList = ok at *
          generalize sV (u.extract 1 u.size).data.toList = nv at *
          generalize numOf (restW u.data.toList) = no at *
          rcases hnum with ⟨rfl, h3⟩ | ⟨rfl, h2, h3⟩ | ⟨m, rfl, rfl, h2, h3⟩
          · have hno := As.mk (hbad.out (hT0.out h3))
            clear hT hT0 hTn hbad hst hsp hrn
            go_wp2_with (fail)
            refine (kn _).mono ?_; rintro e w2 ⟨rfl, rfl⟩
            go_wp2_with (fail)
            go_ret2
            rw [hno.out.1, hno.out.2]; exact ⟨⟨_, rfl, by exact Own.lit _ w.heap.size 31 [] (Nat.le_trans hb1.size hb.size) (by simp)⟩, bl_new (bl_call hb1 hb) _⟩
          · have hno := As.mk (hbad.out (hT0.out h3))
            clear hT hT0 hTn hbad hst hsp hrn
            go_wp2_with (fail)
            refine (kn _).mono ?_; rintro e w2 ⟨rfl, rfl⟩
            go_wp2_with (fail)
            go_ret2
            rw [hno.out.1, hno.out.2]; exact ⟨⟨_, rfl, by exact Own.lit _ w.heap.size 31 [] (Nat.le_trans hb1.size hb.size) (by simp)⟩, bl_new (bl_call hb1 hb) _⟩
          · have hm2 : (m : Int) < 40 := by omega
            have hwr : IntKind.wrap .i8 (-(m : Int)) = -(m : Int) := wrap_i8 _ (by omega) (by omega)
            by_cases h14 : 1 ≤ m ∧ m ≤ 4
            · have hin : inR (m : Int) 1 4 = true := by simp [inR]; omega
              have hx := As.mk (hst.out _ (hT.out m h3 h14))
              clear hT hT0 hTn hbad hst hsp hrn
              go_wp2_with (fail)
              refine (kn _).mono ?_; rintro e w2 ⟨rfl, rfl⟩
              go_wp2_with (first | (go_at_call 11; refine (kin _ _).mono ?_; rintro e w' ⟨rfl, rfl⟩; rw [hin]) | (at_builtin; refine app1 (w0 := w1) (w1.heap.size) rfl (.tmp 63) (.tmp 66) 23 31 (.int .i8 0) 1 rfl Tryd.underlying23 info_i8 rfl (by omega) _ (i8s h) (.int .i8 (-(m : Int))) rfl rfl rfl HO hb hb.size (by rw [hsl]; omega) ?_))
              rintro v1 w2 O2 hb2 hg2 ho2
              rw [i8s_snoc] at O2
              go_wp2
              go_roundw
              case rel => exact ⟨k + 1, _, by omega, by go_num, O2, hx, hb2⟩
              case measure => simp [intOf]; omega
            · have hin : inR (m : Int) 1 4 = false := by simp [inR]; omega
              have hno := As.mk (hbad.out (hTn.out m h3 h14))
              clear hT hT0 hTn hbad hst hsp hrn h14
              go_wp2_with (fail)
              refine (kn _).mono ?_; rintro e w2 ⟨rfl, rfl⟩
              go_wp2_with (go_at_call 11; refine (kin _ _).mono ?_; rintro e w' ⟨rfl, rfl⟩; rw [hin])
              go_ret2
              rw [hno.out.1, hno.out.2]; exact ⟨⟨_, rfl, by exact Own.lit _ w.heap.size 31 [] (Nat.le_trans hb1.size hb.size) (by simp)⟩, bl_new (bl_call hb1 hb) _⟩
    · obtain rfl : k = n := by omega
      have hWn : W.length = k := by omega
      have hbd := HD.out k h HK.out
      have hK2 := HK.out
      rw [← hWn] at hK2
      obtain ⟨A', c', rfl, S'⟩ := HO.sl
      have kok := fun W Sx => l02Ok_any h A' c' W Sx (fun x hx => by have := hbd x hx; omega)
      simp only [hhl] at kok
      rw [hhl] at HO
      have hG := As.mk (HG.out h hK2)
      have hB := As.mk (HB.out h hK2)
      clear hK2 hbd
      go_wp2_with (fail)
      refine (kok _ S').mono ?_; rintro e w2 ⟨rfl, hb2⟩
      cases hq : hOk h
      · have hno := As.mk (hB.out hq)
        go_wp2_with (fail)
        go_ret2
        rw [hno.out.1, hno.out.2]; exact ⟨⟨_, rfl, by exact Own.lit _ w.heap.size 31 [] (Nat.le_trans (Nat.le_trans hb1.size hb.size) hb2.size) (by simp)⟩, bl_new (bl_call (bl_call hb1 hb) hb2) _⟩
      · have hyes := As.mk (hG.out hq)
        go_wp2_with (fail)
        go_ret2
        rw [hyes.out.1, hyes.out.2]; exact ⟨⟨_, rfl, by exact (HO.kept hb2).lower hb1.size⟩, bl_call (bl_call hb1 hb) hb2⟩
end Go.Proofs.YtldfogiaccanpaaDoor
