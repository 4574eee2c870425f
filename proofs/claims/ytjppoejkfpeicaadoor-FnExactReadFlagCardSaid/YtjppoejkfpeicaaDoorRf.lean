/- ReadFlag: plain facts: the text of a flag, read back. -/
import Derived.Test.YtjppoejkfpeicaaDoorF18
import Derived.Lib.Replace
set_option linter.unusedVariables false
set_option linter.unusedSimpArgs false
namespace Go.Proofs.YtjppoejkfpeicaaDoor
open Go.RowKit

theorem index_cons_eq (c : UInt8) (l : List UInt8) : Lib.index (c :: l) [c] = ((0 : Nat) : Int) := by rw [Lib.index]; simp [List.isPrefixOf]
theorem index_cons_ne (b c : UInt8) (l : List UInt8) (h : b ≠ c) : Lib.index (b :: l) [c] = if Lib.index l [c] == -1 then -1 else Lib.index l [c] + 1 := by
  have hp : ([c] : List UInt8).isPrefixOf (b :: l) = false := by simp [List.isPrefixOf, Ne.symm h]
  rw [Lib.index, hp]; simp
theorem replaceK_cons_ne (b c : UInt8) (l : List UInt8) (h : b ≠ c) : ∀ n, Lib.replaceK [c] [] n (b :: l) = b :: Lib.replaceK [c] [] n l
  | 0 => rfl
  | n + 1 => by
    have hix := index_cons_ne b c l h
    by_cases hm : Lib.index l [c] = -1
    · have h1 : (Lib.index l [c] == -1) = true := beq_iff_eq.2 hm
      rw [if_pos h1] at hix
      rw [Lib.replaceK, Lib.replaceK, if_pos (beq_iff_eq.2 hix), if_pos h1]
    · have hge := Lib.index_ge l [c]
      obtain ⟨j, hj⟩ : ∃ j : Nat, Lib.index l [c] = j := ⟨(Lib.index l [c]).toNat, by omega⟩
      have hix' : Lib.index (b :: l) [c] = ((j + 1 : Nat) : Int) := by rw [hix, if_neg (fun e => hm (beq_iff_eq.1 e)), hj]; omega
      rw [Lib.replaceK_hit _ _ _ _ _ hix', Lib.replaceK_hit _ _ _ _ _ hj]
      simp
theorem replaceK_all (c : UInt8) : ∀ s : List UInt8, Lib.replaceK [c] [] (Lib.count s [c]) s = s.filter (fun b => b != c)
  | [] => by
    have : Lib.count [] [c] = 0 := Lib.count_miss (by simp [Lib.index])
    rw [this]; rfl
  | b :: l => by
    by_cases h : b = c
    · subst h
      rw [Lib.count_cons_eq, Nat.add_comm, Lib.replaceK_hit _ _ _ _ _ (index_cons_eq b l)]
      rw [List.filter_cons_of_neg (by simp)]
      simpa using replaceK_all b l
    · rw [Lib.count_cons_ne b c l h, replaceK_cons_ne b c l h, replaceK_all c l, List.filter_cons_of_pos (by simpa using h)]
theorem replaceAll_strike (c : UInt8) (s : List UInt8) : Lib.replaceAll s [c] [] = s.filter (fun b => b != c) := by
  unfold Lib.replaceAll Lib.replace
  rw [if_neg (by simp)]
  have : Lib.replaceNum s [c] (-1) = Lib.count s [c] := by unfold Lib.replaceNum; rw [if_pos (Or.inl (by omega))]
  rw [this, replaceK_all]

/-- The colour of a letter, -1 if there is none. -/
def colB (b : UInt8) : Int := Lib.indexByte [119, 121, 114, 98, 103, 107] b
def U8 (n : Int) : UInt8 := UInt8.ofNat n.toNat
theorem six (x : Int) (h0 : 0 ≤ x) (h5 : x ≤ 5) : x = 0 ∨ x = 1 ∨ x = 2 ∨ x = 3 ∨ x = 4 ∨ x = 5 := by omega
theorem colB_letter (x : Int) (h0 : 0 ≤ x) (h5 : x ≤ 5) : colB (U8 (letter x)) = x := by
  rcases six x h0 h5 with rfl | rfl | rfl | rfl | rfl | rfl <;> rfl
theorem letter_ne (x : Int) (h0 : 0 ≤ x) (h5 : x ≤ 5) : U8 (letter x) ≠ 47 := by
  rcases six x h0 h5 with rfl | rfl | rfl | rfl | rfl | rfl <;> decide
theorem colB_cases (b : UInt8) : colB b = -1 ∨ (0 ≤ colB b ∧ colB b ≤ 5 ∧ U8 (letter (colB b)) = b) := by
  by_cases h1 : b = 119
  · subst h1; right; decide
  by_cases h2 : b = 121
  · subst h2; right; decide
  by_cases h3 : b = 114
  · subst h3; right; decide
  by_cases h4 : b = 98
  · subst h4; right; decide
  by_cases h5 : b = 103
  · subst h5; right; decide
  by_cases h6 : b = 107
  · subst h6; right; decide
  left
  unfold colB
  simp [Lib.indexByte, Ne.symm h1, Ne.symm h2, Ne.symm h3, Ne.symm h4, Ne.symm h5, Ne.symm h6]
theorem wrap_small (x : Int) (h0 : 0 ≤ x) (h5 : x ≤ 5) : IntKind.wrap .u8 x = x := by
  rcases six x h0 h5 with rfl | rfl | rfl | rfl | rfl | rfl <;> rfl
theorem wrap_u8_bounds (x : Int) : 0 ≤ IntKind.wrap .u8 x ∧ IntKind.wrap .u8 x ≤ 255 := by
  have : IntKind.wrap .u8 x = x % 256 := by rfl
  omega

/-- all are colours -/
def Cols (xs : List Int) : Prop := ∀ x ∈ xs, 0 ≤ x ∧ x ≤ 5
theorem Cols.nth {xs : List Int} (h : Cols xs) (i : Nat) : 0 ≤ nth xs i ∧ nth xs i ≤ 5 := by
  by_cases hi : i < xs.length
  · exact h _ (nth_mem xs i hi)
  · rw [nth_out xs i (by omega)]; omega
theorem Cols.bytes {xs : List Int} (h : Cols xs) : Bytes xs := fun x hx => by have := h x hx; omega

/-- the bytes of a flag's text -/
def txt (xs : List Int) : List UInt8 := (textL xs 24).map U8
theorem textL_strike {xs : List Int} (h : Cols xs) : ∀ k, ((textL xs k).map U8).filter (fun b => b != 47) = (List.range k).map (fun i => U8 (letter (nth xs i)))
  | 0 => rfl
  | k + 1 => by
    have hn := h.nth k
    have hne := letter_ne _ hn.1 hn.2
    have h47 : U8 47 = 47 := by decide
    have ht : textL xs (k + 1) = (if 0 < k ∧ k % 6 = 0 then textL xs k ++ [47] else textL xs k) ++ [letter (nth xs k)] := rfl
    rw [List.range_succ, List.map_append, ← textL_strike h k, ht]
    split
    · simp [List.filter_append, List.filter_cons, hne, h47]
    · simp [List.filter_append, List.filter_cons, hne]

theorem str_txt (xs : List Int) : (strOfNums (textL xs 24)).data.toList = txt xs := by
  unfold txt; generalize textL xs 24 = z; rfl
/-- what the program reads, cell by cell -/
def cellsF (L : List UInt8) : List UInt8 := Lib.replaceAll L [47] []
def gotN (cs : List UInt8) : List Int := part (fun i => IntKind.wrap .u8 (colB (cs.getD i 0))) 24 (min cs.length 24)
def gotF (L : List UInt8) : List Int := gotN (cellsF L)
theorem gotN_length (cs : List UInt8) : (gotN cs).length = 24 := part_length _ _ _
theorem gotN_bytes (cs : List UInt8) : Bytes (gotN cs) := by
  intro x hx
  unfold gotN part at hx
  obtain ⟨i, _, rfl⟩ := List.mem_map.1 hx
  split
  · exact wrap_u8_bounds _
  · omega
theorem gotF_txt {xs : List Int} (h : Cols xs) (h24 : xs.length = 24) : gotF (txt xs) = xs := by
  unfold gotF gotN cellsF txt
  rw [replaceAll_strike, textL_strike h]
  simp only [List.length_map, List.length_range, Nat.min_self]
  rw [part_full]
  refine Eq.trans ?_ (range_nth xs 24 h24)
  apply List.map_congr_left
  intro i hi
  rw [List.mem_range] at hi
  have hn := h.nth i
  rw [List.getD_eq_getElem?_getD, List.getElem?_map, List.getElem?_range hi]
  simp only [Option.map_some, Option.getD_some]
  rw [colB_letter _ hn.1 hn.2, wrap_small _ hn.1 hn.2]

/-- what the reference reads, byte by byte -/
def readK (L : List UInt8) : Nat → Option (List Int)
  | 0 => some []
  | k + 1 => match readK L k with
    | none => none
    | some xs => if k % 7 = 6 then (if L.getD k 0 = 47 then some xs else none) else if colB (L.getD k 0) < 0 then none else some (xs ++ [colB (L.getD k 0)])
def readF (L : List UInt8) : Option (List Int) := if L.length = 27 then readK L 27 else none
theorem readK_none {L : List UInt8} {k : Nat} (h : readK L k = none) : ∀ j, k ≤ j → readK L j = none
  | 0, hj => by obtain rfl : k = 0 := by omega
                exact h
  | j + 1, hj => by
    by_cases e : k = j + 1
    · subst e; exact h
    · have := readK_none h j (by omega)
      unfold readK; rw [this]
/-- the text position by position -/
def pre (xs : List Int) (k : Nat) : List UInt8 := (List.range k).map fun i => if i % 7 = 6 then 47 else U8 (letter (nth xs (i - i / 7)))
theorem pre_succ (xs : List Int) (k : Nat) : pre xs (k + 1) = pre xs k ++ [if k % 7 = 6 then 47 else U8 (letter (nth xs (k - k / 7)))] := by
  unfold pre; rw [List.range_succ, List.map_append]; rfl
theorem textL_pre (xs : List Int) : ∀ k, (textL xs (k + 1)).map U8 = pre xs (k + 1 + k / 6)
  | 0 => by simp [textL, pre]
  | k + 1 => by
    have ih := textL_pre xs k
    have e47 : U8 47 = 47 := by decide
    have ht : textL xs (k + 1 + 1) = (if 0 < k + 1 ∧ (k + 1) % 6 = 0 then textL xs (k + 1) ++ [47] else textL xs (k + 1)) ++ [letter (nth xs (k + 1))] := rfl
    rw [ht]
    by_cases h : (k + 1) % 6 = 0
    · rw [if_pos ⟨by omega, h⟩]
      have e1 : (k + 1) / 6 = k / 6 + 1 := by omega
      have e2 : k + 1 + 1 + (k / 6 + 1) = k + 1 + k / 6 + 1 + 1 := by omega
      rw [e1, e2, pre_succ, pre_succ, ← ih, if_pos (by omega), if_neg (by omega)]
      have e3 : k + 1 + k / 6 + 1 - (k + 1 + k / 6 + 1) / 7 = k + 1 := by omega
      rw [e3]
      simp [e47]
    · rw [if_neg (fun hh => h hh.2)]
      have e1 : (k + 1) / 6 = k / 6 := by omega
      have e2 : k + 1 + 1 + k / 6 = k + 1 + k / 6 + 1 := by omega
      rw [e1, e2, pre_succ, ← ih, if_neg (by omega)]
      have e3 : k + 1 + k / 6 - (k + 1 + k / 6) / 7 = k + 1 := by omega
      rw [e3]
      simp
theorem txt_pre (xs : List Int) : txt xs = pre xs 27 := textL_pre xs 23
theorem pre_snoc (xs : List Int) (x : Int) : ∀ k, k - k / 7 ≤ xs.length → pre (xs ++ [x]) k = pre xs k
  | 0, _ => rfl
  | k + 1, h => by
    rw [pre_succ, pre_succ, pre_snoc xs x k (by omega)]
    by_cases h6 : k % 7 = 6
    · rw [if_pos h6, if_pos h6]
    · rw [if_neg h6, if_neg h6]
      have : nth (xs ++ [x]) (k - k / 7) = nth xs (k - k / 7) := by
        unfold nth
        rw [List.getD_eq_getElem?_getD, List.getD_eq_getElem?_getD, List.getElem?_append_left (by omega)]
      rw [this]
theorem readK_some {L : List UInt8} : ∀ (k : Nat) (xs : List Int), k ≤ L.length → readK L k = some xs → xs.length = k - k / 7 ∧ Cols xs ∧ L.take k = pre xs k
  | 0, xs, _, h => by
    have : xs = [] := by simpa [readK] using h.symm
    subst this
    exact ⟨rfl, (fun x hx => by cases hx), by simp [pre]⟩
  | k + 1, xs, hk, h => by
    unfold readK at h
    cases hq : readK L k with
    | none => rw [hq] at h; cases h
    | some ys =>
      rw [hq] at h
      obtain ⟨h1, h2, h3⟩ := readK_some k ys (by omega) hq
      have ht : L.take (k + 1) = L.take k ++ [L.getD k 0] := by
        rw [List.take_add_one, List.getD_eq_getElem?_getD, List.getElem?_eq_getElem (by omega)]; rfl
      simp only at h
      by_cases h6 : k % 7 = 6
      · rw [if_pos h6] at h
        split at h
        · rename_i hb
          cases h
          exact ⟨by omega, h2, by rw [ht, h3, pre_succ, if_pos h6, hb]⟩
        · cases h
      · rw [if_neg h6] at h
        split at h
        · cases h
        · rename_i hb
          cases h
          rcases colB_cases (L.getD k 0) with hc | ⟨c0, c5, cl⟩
          · omega
          · refine ⟨by simp; omega, ?_, ?_⟩
            · intro x hx
              rcases List.mem_append.1 hx with hx | hx
              · exact h2 x hx
              · simp at hx; subst hx; exact ⟨c0, c5⟩
            · rw [ht, h3, pre_succ, if_neg h6, pre_snoc _ _ _ (by omega)]
              have : nth (ys ++ [colB (L.getD k 0)]) (k - k / 7) = colB (L.getD k 0) := by
                unfold nth; rw [← h1]; simp
              rw [this, cl]
theorem readK_pre {xs : List Int} (h : Cols xs) (h24 : xs.length = 24) : ∀ k, k ≤ 27 → readK (pre xs 27) k = some (xs.take (k - k / 7))
  | 0, _ => rfl
  | k + 1, hk => by
    have hg : (pre xs 27).getD k 0 = if k % 7 = 6 then 47 else U8 (letter (nth xs (k - k / 7))) := by
      unfold pre
      rw [List.getD_eq_getElem?_getD, List.getElem?_map, List.getElem?_range (by omega)]; rfl
    unfold readK
    rw [readK_pre h h24 k (by omega)]
    simp only [hg]
    by_cases h6 : k % 7 = 6
    · rw [if_pos h6, if_pos (by rw [if_pos h6])]
      congr 2; omega
    · have hn := h.nth (k - k / 7)
      rw [if_neg h6, if_neg h6, colB_letter _ hn.1 hn.2, if_neg (by omega)]
      have e : k + 1 - (k + 1) / 7 = k - k / 7 + 1 := by omega
      rw [e, List.take_add_one, nth_get? xs _ (by omega)]; rfl
theorem readF_iff (L : List UInt8) (xs : List Int) : readF L = some xs ↔ (Cols xs ∧ xs.length = 24 ∧ L = txt xs) := by
  constructor
  · intro h
    unfold readF at h
    split at h
    · rename_i h27
      obtain ⟨h1, h2, h3⟩ := readK_some 27 xs (by omega) h
      refine ⟨h2, h1, ?_⟩
      rw [txt_pre, ← h3, ← h27, List.take_length]
    · cases h
  · rintro ⟨h1, h2, h3⟩
    rw [h3]
    unfold readF
    have hl : (txt xs).length = 27 := by rw [txt_pre]; simp [pre]
    rw [if_pos hl, txt_pre, readK_pre h1 h2 27 (by omega)]
    rw [List.take_of_length_le (by omega)]
theorem vf_cols {xs : List Int} (h24 : xs.length = 24) (hb : Bytes xs) (hv : vf xs = true) : Cols xs := fun x hx => by
  obtain ⟨i, hi, rfl⟩ := List.mem_iff_getElem.1 hx
  have h1 := hb _ hx
  rw [nth_get xs i hi]
  exact ⟨by rw [← nth_get xs i hi]; exact h1.1, vf_nth hv i (by omega)⟩
theorem cols_vf {xs : List Int} (h24 : xs.length = 24) (h : Cols xs) : vf xs = true := by
  unfold vf; rw [List.all_eq_true]
  intro x hx
  have := h x hx
  simpa using this.2
/-- Both read the same. -/
theorem readF_eq (s : ByteArray) : readF s.data.toList = if s = ⟨#[]⟩ ∨ flagText (gotF s.data.toList) ≠ s then none else some (gotF s.data.toList) := by
  cases hr : readF s.data.toList with
  | some xs =>
    obtain ⟨h1, h2, h3⟩ := (readF_iff _ _).1 hr
    have hg : gotF s.data.toList = xs := by rw [h3]; exact gotF_txt h1 h2
    have hs : flagText xs = s := by
      unfold flagText
      rw [if_pos (cols_vf h2 h1)]
      apply ByteArray.ext
      apply Array.ext'
      rw [h3]; exact str_txt xs
    rw [hg, if_neg]
    rintro (h | h)
    · subst h
      have hl : (txt xs).length = 27 := by rw [txt_pre]; simp [pre]
      rw [← h3] at hl; simp at hl
    · exact h hs
  | none =>
    by_cases h : s = ⟨#[]⟩ ∨ flagText (gotF s.data.toList) ≠ s
    · rw [if_pos h]
    · exfalso
      rw [not_or] at h
      obtain ⟨ha, hb⟩ := h
      have hb := Classical.not_not.1 hb
      have hv : vf (gotF s.data.toList) = true := by
        cases hv : vf (gotF s.data.toList)
        · exfalso; unfold flagText at hb; rw [hv] at hb; exact ha hb.symm
        · rfl
      have hl := gotN_length (cellsF s.data.toList)
      have : readF s.data.toList = some (gotF s.data.toList) := by
        rw [readF_iff]
        refine ⟨vf_cols hl (gotN_bytes _) hv, hl, ?_⟩
        unfold flagText at hb
        rw [if_pos hv] at hb
        have := str_txt (gotF s.data.toList)
        rw [hb] at this
        exact this
      rw [this] at hr; cases hr
end Go.Proofs.YtjppoejkfpeicaaDoor
