/- Contracts and plain facts, several texts in one. -/
import Derived.Test.YtjppoejkfpeicaaDoorQP6
import Derived.Lib.Replace
import Derived.Test.YtjppoejkfpeicaaDoorQP3
import Derived.Test.YtjppoejkfpeicaaDoorQP4
import Derived.Test.YtjppoejkfpeicaaDoorQP1
import Derived.Test.YtjppoejkfpeicaaDoorQP2
import Derived.Laws.OwnMore
/- ReadFlag: plain facts: the text of a flag, read back. -/
set_option linter.unusedVariables false
set_option linter.unusedSimpArgs false
namespace Go.Proofs.YtjppoejkfpeicaaDoor
open Go.RowKit

theorem index_cons_eq (c : UInt8) (l : List UInt8) : Lib.index (c :: l) [c] = ((0 : Nat) : Int) := by rw [Lib.index]; simp [List.isPrefixOf]
theorem index_cons_ne (b c : UInt8) (l : List UInt8) (h : b ≠ c) : Lib.index (b :: l) [c] = if Lib.index l [c] == -1 then -1 else Lib.index l [c] + 1 := by
  have hp : ([c] : List UInt8).isPrefixOf (b :: l) = false := by simp [List.isPrefixOf, Ne.symm h]
  rw [Lib.index, hp]; simp
theorem replaceK_cons_ne (b c : UInt8) (l : List UInt8) (h : b ≠ c) : ∀ n, Lib.replaceK [c] [] n (b :: l) = b :: Lib.replaceK [c] [] n l
  | 0 => rfl
  | n + 1 => by
    have hix := index_cons_ne b c l h
    by_cases hm : Lib.index l [c] = -1
    · have h1 : (Lib.index l [c] == -1) = true := beq_iff_eq.2 hm
      rw [if_pos h1] at hix
      rw [Lib.replaceK, Lib.replaceK, if_pos (beq_iff_eq.2 hix), if_pos h1]
    · have hge := Lib.index_ge l [c]
      obtain ⟨j, hj⟩ : ∃ j : Nat, Lib.index l [c] = j := ⟨(Lib.index l [c]).toNat, by omega⟩
      have hix' : Lib.index (b :: l) [c] = ((j + 1 : Nat) : Int) := by rw [hix, if_neg (fun e => hm (beq_iff_eq.1 e)), hj]; omega
      rw [Lib.replaceK_hit _ _ _ _ _ hix', Lib.replaceK_hit _ _ _ _ _ hj]
      simp
theorem replaceK_all (c : UInt8) : ∀ s : List UInt8, Lib.replaceK [c] [] (Lib.count s [c]) s = s.filter (fun b => b != c)
  | [] => by
    have : Lib.count [] [c] = 0 := Lib.count_miss (by simp [Lib.index])
    rw [this]; rfl
  | b :: l => by
    by_cases h : b = c
    · subst h
      rw [Lib.count_cons_eq, Nat.add_comm, Lib.replaceK_hit _ _ _ _ _ (index_cons_eq b l)]
      rw [List.filter_cons_of_neg (by simp)]
      simpa using replaceK_all b l
    · rw [Lib.count_cons_ne b c l h, replaceK_cons_ne b c l h, replaceK_all c l, List.filter_cons_of_pos (by simpa using h)]
theorem replaceAll_strike (c : UInt8) (s : List UInt8) : Lib.replaceAll s [c] [] = s.filter (fun b => b != c) := by
  unfold Lib.replaceAll Lib.replace
  rw [if_neg (by simp)]
  have : Lib.replaceNum s [c] (-1) = Lib.count s [c] := by unfold Lib.replaceNum; rw [if_pos (Or.inl (by omega))]
  rw [this, replaceK_all]

/-- The colour of a letter, -1 if there is none. -/
def colB (b : UInt8) : Int := Lib.indexByte [119, 121, 114, 98, 103, 107] b
def U8 (n : Int) : UInt8 := UInt8.ofNat n.toNat
theorem six (x : Int) (h0 : 0 ≤ x) (h5 : x ≤ 5) : x = 0 ∨ x = 1 ∨ x = 2 ∨ x = 3 ∨ x = 4 ∨ x = 5 := by omega
theorem colB_letter (x : Int) (h0 : 0 ≤ x) (h5 : x ≤ 5) : colB (U8 (letter x)) = x := by
  rcases six x h0 h5 with rfl | rfl | rfl | rfl | rfl | rfl <;> rfl
theorem letter_ne (x : Int) (h0 : 0 ≤ x) (h5 : x ≤ 5) : U8 (letter x) ≠ 47 := by
  rcases six x h0 h5 with rfl | rfl | rfl | rfl | rfl | rfl <;> decide
theorem colB_cases (b : UInt8) : colB b = -1 ∨ (0 ≤ colB b ∧ colB b ≤ 5 ∧ U8 (letter (colB b)) = b) := by
  by_cases h1 : b = 119
  · subst h1; right; decide
  by_cases h2 : b = 121
  · subst h2; right; decide
  by_cases h3 : b = 114
  · subst h3; right; decide
  by_cases h4 : b = 98
  · subst h4; right; decide
  by_cases h5 : b = 103
  · subst h5; right; decide
  by_cases h6 : b = 107
  · subst h6; right; decide
  left
  unfold colB
  simp [Lib.indexByte, Ne.symm h1, Ne.symm h2, Ne.symm h3, Ne.symm h4, Ne.symm h5, Ne.symm h6]
theorem wrap_small (x : Int) (h0 : 0 ≤ x) (h5 : x ≤ 5) : IntKind.wrap .u8 x = x := by
  rcases six x h0 h5 with rfl | rfl | rfl | rfl | rfl | rfl <;> rfl
theorem wrap_u8_bounds (x : Int) : 0 ≤ IntKind.wrap .u8 x ∧ IntKind.wrap .u8 x ≤ 255 := by
  have : IntKind.wrap .u8 x = x % 256 := by rfl
  omega

/-- all are colours -/
def Cols (xs : List Int) : Prop := ∀ x ∈ xs, 0 ≤ x ∧ x ≤ 5
theorem Cols.nth {xs : List Int} (h : Cols xs) (i : Nat) : 0 ≤ nth xs i ∧ nth xs i ≤ 5 := by
  by_cases hi : i < xs.length
  · exact h _ (nth_mem xs i hi)
  · rw [nth_out xs i (by omega)]; omega
theorem Cols.bytes {xs : List Int} (h : Cols xs) : Bytes xs := fun x hx => by have := h x hx; omega

/-- the bytes of a flag's text -/
def txt (xs : List Int) : List UInt8 := (textL xs 24).map U8
theorem textL_strike {xs : List Int} (h : Cols xs) : ∀ k, ((textL xs k).map U8).filter (fun b => b != 47) = (List.range k).map (fun i => U8 (letter (nth xs i)))
  | 0 => rfl
  | k + 1 => by
    have hn := h.nth k
    have hne := letter_ne _ hn.1 hn.2
    have h47 : U8 47 = 47 := by decide
    have ht : textL xs (k + 1) = (if 0 < k ∧ k % 6 = 0 then textL xs k ++ [47] else textL xs k) ++ [letter (nth xs k)] := rfl
    rw [List.range_succ, List.map_append, ← textL_strike h k, ht]
    split
    · simp [List.filter_append, List.filter_cons, hne, h47]
    · simp [List.filter_append, List.filter_cons, hne]

theorem str_txt (xs : List Int) : (strOfNums (textL xs 24)).data.toList = txt xs := by
  unfold txt; generalize textL xs 24 = z; rfl
/-- what the program reads, cell by cell -/
def cellsF (L : List UInt8) : List UInt8 := Lib.replaceAll L [47] []
def gotN (cs : List UInt8) : List Int := part (fun i => IntKind.wrap .u8 (colB (cs.getD i 0))) 24 (min cs.length 24)
def gotF (L : List UInt8) : List Int := gotN (cellsF L)
theorem gotN_length (cs : List UInt8) : (gotN cs).length = 24 := part_length _ _ _
theorem gotN_bytes (cs : List UInt8) : Bytes (gotN cs) := by
  intro x hx
  unfold gotN part at hx
  obtain ⟨i, _, rfl⟩ := List.mem_map.1 hx
  split
  · exact wrap_u8_bounds _
  · omega
theorem gotF_txt {xs : List Int} (h : Cols xs) (h24 : xs.length = 24) : gotF (txt xs) = xs := by
  unfold gotF gotN cellsF txt
  rw [replaceAll_strike, textL_strike h]
  simp only [List.length_map, List.length_range, Nat.min_self]
  rw [part_full]
  refine Eq.trans ?_ (range_nth xs 24 h24)
  apply List.map_congr_left
  intro i hi
  rw [List.mem_range] at hi
  have hn := h.nth i
  rw [List.getD_eq_getElem?_getD, List.getElem?_map, List.getElem?_range hi]
  simp only [Option.map_some, Option.getD_some]
  rw [colB_letter _ hn.1 hn.2, wrap_small _ hn.1 hn.2]

/-- what the reference reads, byte by byte -/
def readK (L : List UInt8) : Nat → Option (List Int)
  | 0 => some []
  | k + 1 => match readK L k with
    | none => none
    | some xs => if k % 7 = 6 then (if L.getD k 0 = 47 then some xs else none) else if colB (L.getD k 0) < 0 then none else some (xs ++ [colB (L.getD k 0)])
def readF (L : List UInt8) : Option (List Int) := if L.length = 27 then readK L 27 else none
theorem readK_none {L : List UInt8} {k : Nat} (h : readK L k = none) : ∀ j, k ≤ j → readK L j = none
  | 0, hj => by obtain rfl : k = 0 := by omega
                exact h
  | j + 1, hj => by
    by_cases e : k = j + 1
    · subst e; exact h
    · have := readK_none h j (by omega)
      unfold readK; rw [this]
/-- the text position by position -/
def pre (xs : List Int) (k : Nat) : List UInt8 := (List.range k).map fun i => if i % 7 = 6 then 47 else U8 (letter (nth xs (i - i / 7)))
theorem pre_succ (xs : List Int) (k : Nat) : pre xs (k + 1) = pre xs k ++ [if k % 7 = 6 then 47 else U8 (letter (nth xs (k - k / 7)))] := by
  unfold pre; rw [List.range_succ, List.map_append]; rfl
theorem textL_pre (xs : List Int) : ∀ k, (textL xs (k + 1)).map U8 = pre xs (k + 1 + k / 6)
  | 0 => by simp [textL, pre]
  | k + 1 => by
    have ih := textL_pre xs k
    have e47 : U8 47 = 47 := by decide
    have ht : textL xs (k + 1 + 1) = (if 0 < k + 1 ∧ (k + 1) % 6 = 0 then textL xs (k + 1) ++ [47] else textL xs (k + 1)) ++ [letter (nth xs (k + 1))] := rfl
    rw [ht]
    by_cases h : (k + 1) % 6 = 0
    · rw [if_pos ⟨by omega, h⟩]
      have e1 : (k + 1) / 6 = k / 6 + 1 := by omega
      have e2 : k + 1 + 1 + (k / 6 + 1) = k + 1 + k / 6 + 1 + 1 := by omega
      rw [e1, e2, pre_succ, pre_succ, ← ih, if_pos (by omega), if_neg (by omega)]
      have e3 : k + 1 + k / 6 + 1 - (k + 1 + k / 6 + 1) / 7 = k + 1 := by omega
      rw [e3]
      simp [e47]
    · rw [if_neg (fun hh => h hh.2)]
      have e1 : (k + 1) / 6 = k / 6 := by omega
      have e2 : k + 1 + 1 + k / 6 = k + 1 + k / 6 + 1 := by omega
      rw [e1, e2, pre_succ, ← ih, if_neg (by omega)]
      have e3 : k + 1 + k / 6 - (k + 1 + k / 6) / 7 = k + 1 := by omega
      rw [e3]
      simp
theorem txt_pre (xs : List Int) : txt xs = pre xs 27 := textL_pre xs 23
theorem pre_snoc (xs : List Int) (x : Int) : ∀ k, k - k / 7 ≤ xs.length → pre (xs ++ [x]) k = pre xs k
  | 0, _ => rfl
  | k + 1, h => by
    rw [pre_succ, pre_succ, pre_snoc xs x k (by omega)]
    by_cases h6 : k % 7 = 6
    · rw [if_pos h6, if_pos h6]
    · rw [if_neg h6, if_neg h6]
      have : nth (xs ++ [x]) (k - k / 7) = nth xs (k - k / 7) := by
        unfold nth
        rw [List.getD_eq_getElem?_getD, List.getD_eq_getElem?_getD, List.getElem?_append_left (by omega)]
      rw [this]
theorem readK_some {L : List UInt8} : ∀ (k : Nat) (xs : List Int), k ≤ L.length → readK L k = some xs → xs.length = k - k / 7 ∧ Cols xs ∧ L.take k = pre xs k
  | 0, xs, _, h => by
    have : xs = [] := by simpa [readK] using h.symm
    subst this
    exact ⟨rfl, (fun x hx => by cases hx), by simp [pre]⟩
  | k + 1, xs, hk, h => by
    unfold readK at h
    cases hq : readK L k with
    | none => rw [hq] at h; cases h
    | some ys =>
      rw [hq] at h
      obtain ⟨h1, h2, h3⟩ := readK_some k ys (by omega) hq
      have ht : L.take (k + 1) = L.take k ++ [L.getD k 0] := by
        rw [List.take_add_one, List.getD_eq_getElem?_getD, List.getElem?_eq_getElem (by omega)]; rfl
      simp only at h
      by_cases h6 : k % 7 = 6
      · rw [if_pos h6] at h
        split at h
        · rename_i hb
          cases h
          exact ⟨by omega, h2, by rw [ht, h3, pre_succ, if_pos h6, hb]⟩
        · cases h
      · rw [if_neg h6] at h
        split at h
        · cases h
        · rename_i hb
          cases h
          rcases colB_cases (L.getD k 0) with hc | ⟨c0, c5, cl⟩
          · omega
          · refine ⟨by simp; omega, ?_, ?_⟩
            · intro x hx
              rcases List.mem_append.1 hx with hx | hx
              · exact h2 x hx
              · simp at hx; subst hx; exact ⟨c0, c5⟩
            · rw [ht, h3, pre_succ, if_neg h6, pre_snoc _ _ _ (by omega)]
              have : nth (ys ++ [colB (L.getD k 0)]) (k - k / 7) = colB (L.getD k 0) := by
                unfold nth; rw [← h1]; simp
              rw [this, cl]
theorem readK_pre {xs : List Int} (h : Cols xs) (h24 : xs.length = 24) : ∀ k, k ≤ 27 → readK (pre xs 27) k = some (xs.take (k - k / 7))
  | 0, _ => rfl
  | k + 1, hk => by
    have hg : (pre xs 27).getD k 0 = if k % 7 = 6 then 47 else U8 (letter (nth xs (k - k / 7))) := by
      unfold pre
      rw [List.getD_eq_getElem?_getD, List.getElem?_map, List.getElem?_range (by omega)]; rfl
    unfold readK
    rw [readK_pre h h24 k (by omega)]
    simp only [hg]
    by_cases h6 : k % 7 = 6
    · rw [if_pos h6, if_pos (by rw [if_pos h6])]
      congr 2; omega
    · have hn := h.nth (k - k / 7)
      rw [if_neg h6, if_neg h6, colB_letter _ hn.1 hn.2, if_neg (by omega)]
      have e : k + 1 - (k + 1) / 7 = k - k / 7 + 1 := by omega
      rw [e, List.take_add_one, nth_get? xs _ (by omega)]; rfl
theorem readF_iff (L : List UInt8) (xs : List Int) : readF L = some xs ↔ (Cols xs ∧ xs.length = 24 ∧ L = txt xs) := by
  constructor
  · intro h
    unfold readF at h
    split at h
    · rename_i h27
      obtain ⟨h1, h2, h3⟩ := readK_some 27 xs (by omega) h
      refine ⟨h2, h1, ?_⟩
      rw [txt_pre, ← h3, ← h27, List.take_length]
    · cases h
  · rintro ⟨h1, h2, h3⟩
    rw [h3]
    unfold readF
    have hl : (txt xs).length = 27 := by rw [txt_pre]; simp [pre]
    rw [if_pos hl, txt_pre, readK_pre h1 h2 27 (by omega)]
    rw [List.take_of_length_le (by omega)]
theorem vf_cols {xs : List Int} (h24 : xs.length = 24) (hb : Bytes xs) (hv : vf xs = true) : Cols xs := fun x hx => by
  obtain ⟨i, hi, rfl⟩ := List.mem_iff_getElem.1 hx
  have h1 := hb _ hx
  rw [nth_get xs i hi]
  exact ⟨by rw [← nth_get xs i hi]; exact h1.1, vf_nth hv i (by omega)⟩
theorem cols_vf {xs : List Int} (h24 : xs.length = 24) (h : Cols xs) : vf xs = true := by
  unfold vf; rw [List.all_eq_true]
  intro x hx
  have := h x hx
  simpa using this.2
/-- Both read the same. -/
theorem readF_eq (s : ByteArray) : readF s.data.toList = if s = ⟨#[]⟩ ∨ flagText (gotF s.data.toList) ≠ s then none else some (gotF s.data.toList) := by
  cases hr : readF s.data.toList with
  | some xs =>
    obtain ⟨h1, h2, h3⟩ := (readF_iff _ _).1 hr
    have hg : gotF s.data.toList = xs := by rw [h3]; exact gotF_txt h1 h2
    have hs : flagText xs = s := by
      unfold flagText
      rw [if_pos (cols_vf h2 h1)]
      apply ByteArray.ext
      apply Array.ext'
      rw [h3]; exact str_txt xs
    rw [hg, if_neg]
    rintro (h | h)
    · subst h
      have hl : (txt xs).length = 27 := by rw [txt_pre]; simp [pre]
      rw [← h3] at hl; simp at hl
    · exact h hs
  | none =>
    by_cases h : s = ⟨#[]⟩ ∨ flagText (gotF s.data.toList) ≠ s
    · rw [if_pos h]
    · exfalso
      rw [not_or] at h
      obtain ⟨ha, hb⟩ := h
      have hb := Classical.not_not.1 hb
      have hv : vf (gotF s.data.toList) = true := by
        cases hv : vf (gotF s.data.toList)
        · exfalso; unfold flagText at hb; rw [hv] at hb; exact ha hb.symm
        · rfl
      have hl := gotN_length (cellsF s.data.toList)
      have : readF s.data.toList = some (gotF s.data.toList) := by
        rw [readF_iff]
        refine ⟨vf_cols hl (gotN_bytes _) hv, hl, ?_⟩
        unfold flagText at hb
        rw [if_pos hv] at hb
        have := str_txt (gotF s.data.toList)
        rw [hb] at this
        exact this
      rw [this] at hr; cases hr
end Go.Proofs.YtjppoejkfpeicaaDoor

/- Contracts: ReadFlag: spec's side. -/
set_option linter.unusedVariables false
set_option linter.unusedSimpArgs false
namespace Go.Proofs.YtjppoejkfpeicaaDoor
open Go.RowKit

def bytR (L : List UInt8) (k : Nat) : Int := ((L.getD k 0).toNat : Int)
theorem bytR_bd (L : List UInt8) (k : Nat) : 0 ≤ bytR L k ∧ bytR L k ≤ 255 := by
  unfold bytR
  have := (L.getD k 0).toNat_lt
  omega
theorem bytR_get (s : ByteArray) (k : Nat) (h : k < s.size) : ((s[k]'h).toNat : Int) = bytR s.data.toList k := by
  have h' : k < s.data.size := h
  unfold bytR
  rw [List.getD_eq_getElem?_getD, List.getElem?_eq_getElem (by rw [Array.length_toList]; exact h')]
  rfl
def colI (x : Int) : Int := if x = 119 then 0 else if x = 121 then 1 else if x = 114 then 2 else if x = 98 then 3 else if x = 103 then 4 else if x = 107 then 5 else -1
theorem colB_I (b : UInt8) : colB b = colI (b.toNat : Int) := by
  have key : ∀ m : Fin 256, colB (UInt8.ofNat m.1) = colI (m.1 : Int) := by decide +kernel
  have := key ⟨b.toNat, b.toNat_lt⟩
  simpa using this
theorem colB_at (L : List UInt8) (k : Nat) : colB (L.getD k 0) = colI (bytR L k) := colB_I _
def letN (j : Nat) : Int := nth [119, 121, 114, 98, 103, 107] j
theorem colI_at (x : Int) : ∀ k, k < 6 → (∀ j, j < k → x ≠ letN j) → x = letN k → colI x = k := by
  intro k hk hj hx
  subst hx
  rcases (by omega : k = 0 ∨ k = 1 ∨ k = 2 ∨ k = 3 ∨ k = 4 ∨ k = 5) with rfl | rfl | rfl | rfl | rfl | rfl <;> rfl
theorem colI_none (x : Int) (h : ∀ j, j < 6 → x ≠ letN j) : colI x = -1 := by
  have h0 : x ≠ 119 := h 0 (by omega)
  have h1 : x ≠ 121 := h 1 (by omega)
  have h2 : x ≠ 114 := h 2 (by omega)
  have h3 : x ≠ 98 := h 3 (by omega)
  have h4 : x ≠ 103 := h 4 (by omega)
  have h5 : x ≠ 107 := h 5 (by omega)
  unfold colI
  rw [if_neg h0, if_neg h1, if_neg h2, if_neg h3, if_neg h4, if_neg h5]

set_option maxHeartbeats 1000000 in
theorem l01Letter_any (x : Int) (hx : 0 ≤ x ∧ x ≤ 255) (w : World) : Calls Tryd.prog 29 #[.int .u8 x] w fun e w' => e = .returned (.int .i64 (colI x)) ∧ w = w' := by
  go_enter Tryd.func29, Tryd.ntmps29
  go_wp2
  go_loop [4] (fun i => ∃ k : Nat, k ≤ 6 ∧ i = .int .i64 k ∧ As (∀ j, j < k → x ≠ letN j)) (fun i => 6 - (intOf i).toNat)
  case atStart => exact ⟨0, by omega, rfl, ⟨fun j hj => by omega⟩⟩
  case round =>
    obtain ⟨k, hk, rfl, H⟩ := hrel
    by_cases hlt : k < 6
    · have hlt' : (k : Int) < 6 := by omega
      have hi : ∀ W, (Instr.index 9 (.string ⟨#[119, 121, 114, 98, 103, 107]⟩) (.int .i64 (k : Int))).run Tryd.prog W = .ok (.int .u8 (letN k)) W := fun W => by
        rcases (by omega : k = 0 ∨ k = 1 ∨ k = 2 ∨ k = 3 ∨ k = 4 ∨ k = 5) with rfl | rfl | rfl | rfl | rfl | rfl
        all_goals (simp only [Instr.index, asIntOf, Sem.run_bind, Sem.run_pure, Result.andThen_ok, run_underlying Tryd.underlying9]; rfl)
      have HA := fun h => As.mk (colI_at x k hlt H.out h)
      have HA := As.mk HA
      generalize hln : letN k = l at *
      by_cases he : x = l
      · have hc := As.mk (HA.out he).out
        have he' : (l == x) = true := by simp [he]
        clear he
        go_wp2
        go_ret
        exact ⟨ret_n hc.out.symm, rfl⟩
      · have he' : (l == x) = false := by rw [beq_eq_false_iff_ne]; exact fun e => he e.symm
        have hne := As.mk he
        clear he
        go_wp2
        go_round
        case rel => exact ⟨k + 1, by omega, by go_num, ⟨fun j hj => by
          by_cases e : j = k
          · subst e; rw [hln]; exact hne.out
          · exact H.out j (by omega)⟩⟩
        case measure => simp [intOf]; omega
    · obtain rfl : k = 6 := by omega
      have hc := As.mk (colI_none x H.out)
      go_wp2
      go_ret
      exact ⟨ret_n hc.out.symm, rfl⟩

def padF (xs : List Int) : List Int := xs ++ List.replicate (24 - xs.length) 0
theorem padF_length {xs : List Int} (h : xs.length ≤ 24) : (padF xs).length = 24 := by unfold padF; simp; omega
theorem padF_set {xs : List Int} (h : xs.length < 24) (x : Int) : (padF xs).set xs.length x = padF (xs ++ [x]) := by
  unfold padF
  obtain ⟨m, hm⟩ : ∃ m, 24 - xs.length = m + 1 := ⟨24 - xs.length - 1, by omega⟩
  have e : 24 - (xs ++ [x]).length = m := by simp; omega
  rw [hm, e, List.set_append_right _ _ (by omega), Nat.sub_self, List.replicate_succ, List.set_cons_zero, List.append_assoc]; rfl
theorem padF_full {xs : List Int} (h : xs.length = 24) : padF xs = xs := by unfold padF; rw [h]; simp
theorem padF_nil : padF [] = zero24 := rfl
def rdL (L : List UInt8) : List Int := (readF L).getD zero24
def rdC (L : List UInt8) : Int := if (readF L).isSome then 0 else 5
theorem rd_none {L : List UInt8} (h : readF L = none) : rdL L = zero24 ∧ rdC L = 5 := by unfold rdL rdC; rw [h]; exact ⟨rfl, rfl⟩
theorem rd_some {L : List UInt8} {xs : List Int} (h : readF L = some xs) : rdL L = xs ∧ rdC L = 0 := by unfold rdL rdC; rw [h]; exact ⟨rfl, rfl⟩
theorem readF_at {L : List UInt8} (h : L.length = 27) : readF L = readK L 27 := by unfold readF; rw [if_pos h]
theorem readK_slash {L : List UInt8} {k : Nat} {xs : List Int} (h : readK L k = some xs) (h6 : k % 7 = 6) : readK L (k + 1) = if bytR L k = 47 then some xs else none := by
  have e : (L.getD k 0 = 47) ↔ (bytR L k = 47) := by
    unfold bytR
    constructor
    · intro e; rw [e]; rfl
    · intro e
      apply UInt8.toNat_inj.1
      have : (47 : UInt8).toNat = 47 := rfl
      omega
  unfold readK
  rw [h]
  simp only [if_pos h6, e]
theorem readK_cell {L : List UInt8} {k : Nat} {xs : List Int} (h : readK L k = some xs) (h6 : ¬ k % 7 = 6) : readK L (k + 1) = if colI (bytR L k) < 0 then none else some (xs ++ [colI (bytR L k)]) := by
  unfold readK
  rw [h]
  simp only [if_neg h6, colB_at]

set_option maxRecDepth 100000 in
set_option maxHeartbeats 2000000 in
theorem sReadFlag_any (s : ByteArray) (hs : s.size ≤ 1048576) (w : World) :
    Calls Tryd.prog 5 #[.string s] w fun e w' => e = .returned (.tuple #[fl (rdL s.data.toList), .int .i64 (rdC s.data.toList)]) ∧ Below w.heap.size w w' := by
  unfold fl
  have hsz : s.data.toList.length = s.size := by rw [Array.length_toList]; rfl
  have A0 : Blk ((w.alloc (.cells #[.int .u8 0, .int .u8 0, .int .u8 0, .int .u8 0, .int .u8 0, .int .u8 0, .int .u8 0, .int .u8 0, .int .u8 0, .int .u8 0, .int .u8 0, .int .u8 0, .int .u8 0, .int .u8 0, .int .u8 0, .int .u8 0, .int .u8 0, .int .u8 0, .int .u8 0, .int .u8 0, .int .u8 0, .int .u8 0, .int .u8 0, .int .u8 0] 23)).alloc (.cells #[.int .u8 0, .int .u8 0, .int .u8 0, .int .u8 0, .int .u8 0, .int .u8 0, .int .u8 0, .int .u8 0, .int .u8 0, .int .u8 0, .int .u8 0, .int .u8 0, .int .u8 0, .int .u8 0, .int .u8 0, .int .u8 0, .int .u8 0, .int .u8 0, .int .u8 0, .int .u8 0, .int .u8 0, .int .u8 0, .int .u8 0, .int .u8 0] 23)) w.heap.size (u8s zero24) 23 := (Blk.mk _ (u8s zero24) _ rfl).alloc _
  have A1 : Blk ((w.alloc (.cells #[.int .u8 0, .int .u8 0, .int .u8 0, .int .u8 0, .int .u8 0, .int .u8 0, .int .u8 0, .int .u8 0, .int .u8 0, .int .u8 0, .int .u8 0, .int .u8 0, .int .u8 0, .int .u8 0, .int .u8 0, .int .u8 0, .int .u8 0, .int .u8 0, .int .u8 0, .int .u8 0, .int .u8 0, .int .u8 0, .int .u8 0, .int .u8 0] 23)).alloc (.cells #[.int .u8 0, .int .u8 0, .int .u8 0, .int .u8 0, .int .u8 0, .int .u8 0, .int .u8 0, .int .u8 0, .int .u8 0, .int .u8 0, .int .u8 0, .int .u8 0, .int .u8 0, .int .u8 0, .int .u8 0, .int .u8 0, .int .u8 0, .int .u8 0, .int .u8 0, .int .u8 0, .int .u8 0, .int .u8 0, .int .u8 0, .int .u8 0] 23)) (w.heap.size + 1) (u8s zero24) 23 := Blk.mk _ (u8s zero24) _ (by simp)
  have b0 : Below w.heap.size w ((w.alloc (.cells #[.int .u8 0, .int .u8 0, .int .u8 0, .int .u8 0, .int .u8 0, .int .u8 0, .int .u8 0, .int .u8 0, .int .u8 0, .int .u8 0, .int .u8 0, .int .u8 0, .int .u8 0, .int .u8 0, .int .u8 0, .int .u8 0, .int .u8 0, .int .u8 0, .int .u8 0, .int .u8 0, .int .u8 0, .int .u8 0, .int .u8 0, .int .u8 0] 23)).alloc (.cells #[.int .u8 0, .int .u8 0, .int .u8 0, .int .u8 0, .int .u8 0, .int .u8 0, .int .u8 0, .int .u8 0, .int .u8 0, .int .u8 0, .int .u8 0, .int .u8 0, .int .u8 0, .int .u8 0, .int .u8 0, .int .u8 0, .int .u8 0, .int .u8 0, .int .u8 0, .int .u8 0, .int .u8 0, .int .u8 0, .int .u8 0, .int .u8 0] 23)) := bl_new (bl_new (Below.refl _ _) _) _
  have V0 := A0.farRow (g := w.heap.size + 1) (by omega) (u8s zero24).toArray
  have V1 := A1.setRow (u8s zero24)
  have d0 := bl_setRow b0 (g := w.heap.size + 1) (by omega) (u8s zero24).toArray
  have hbt := fun k h => bytR_get s k h
  have hz : zero24.length = 24 := rfl
  have HL := As.mk hsz
  by_cases h27 : s.size = 27
  · have h27' : (((s.size : Nat) : Int) != 27) = false := by rw [h27]; rfl
    have hF := As.mk (readF_at (L := s.data.toList) (by rw [hsz]; exact h27))
    have hbt' := As.mk hbt
    clear hbt hsz
    go_enter Tryd.func5, Tryd.ntmps5
    go_wp2_with (refine store_blk rfl 23 _ _ rfl _ rfl (ds := u8s zero24) rfl A1 info_fl (by rfl) (by rfl) (u8s_one _) ?_)
    clear A0 A1 b0
    go_loopw [5, 6] (fun a i wr => ∃ (k : Nat) (xs : List Int), k ≤ 27 ∧ i = .int .i64 k ∧ a = .int .i64 xs.length ∧ As (readK s.data.toList k = some xs) ∧ Blk wr w.heap.size (u8s zero24) 23 ∧ Blk wr (w.heap.size + 1) (u8s (padF xs)) 23 ∧ Below w.heap.size w wr) (fun _ i _ => 27 - (intOf i).toNat)
    case atStart => exact ⟨0, [], by omega, rfl, rfl, ⟨rfl⟩, V0, V1, d0⟩
    case round =>
      obtain ⟨k, xs, hk, rfl, rfl, HK, X0, X1, hb⟩ := hrel
      clear V0 V1 d0
      obtain ⟨e1, e2, e3⟩ := readK_some k xs (by rw [HL.out]; omega) HK.out
      have hxl : xs.length ≤ 24 := by omega
      have hpl := padF_length hxl
      by_cases hlt : k < 27
      · have hlt' : (k : Int) < ((s.size : Nat) : Int) := by omega
        have hks : k < s.size := by omega
        have hbk := hbt'.out k hks
        have hbd := bytR_bd s.data.toList k
        have e1' := As.mk e1
        by_cases h6 : k % 7 = 6
        · have h6' : ((k : Int) % 7 == 6) = true := by rw [beq_iff_eq]; omega
          have hst := As.mk (readK_slash HK.out h6)
          generalize bytR s.data.toList k = x at *
          clear e3 e1
          by_cases h47 : x = 47
          · have h47' : (x != 47) = false := by simp [h47]
            have hs2 := As.mk (hst.out.trans (if_pos h47))
            clear h47 h6
            go_wp2_with (fail)
            go_roundw
            case rel => exact ⟨k + 1, xs, by omega, by go_num, rfl, hs2, X0, X1, hb⟩
            case measure => simp [intOf]; omega
          · have h47' : (x != 47) = true := by simp [h47]
            have hs2 := As.mk (hst.out.trans (if_neg h47))
            have hr := As.mk (rd_none (hF.out.trans (readK_none hs2.out 27 (by omega))))
            clear h47 h6
            go_wp2_with (refine store_blk rfl 23 _ _ rfl _ rfl (ds := u8s zero24) rfl X0 info_fl (by rfl) (by rfl) (u8s_one _) ?_)
            refine ret_blk_tmp rfl _ rfl (X0.setRow _) Tryd.underlying23 rfl info_fl (by rfl) rfl ⟨ret_v (by rw [hr.out.1, hr.out.2]; rfl), bl_setRow hb (by omega) _⟩
        · have h6' : ((k : Int) % 7 == 6) = false := by rw [beq_eq_false_iff_ne]; omega
          have hst := readK_cell HK.out h6
          have key := fun W => l01Letter_any (bytR s.data.toList k) hbd W
          have hcI : colI (bytR s.data.toList k) = -1 ∨ (0 ≤ colI (bytR s.data.toList k) ∧ colI (bytR s.data.toList k) ≤ 5) := by
            rw [← colB_at]
            rcases colB_cases (s.data.toList.getD k 0) with h | h
            · exact .inl h
            · exact .inr ⟨h.1, h.2.1⟩
          generalize bytR s.data.toList k = x at *
          generalize colI x = ci at *
          have hst' := As.mk hst
          clear e3 e1 hst
          rcases hcI with hneg | ⟨c0, c5⟩
          · have hs2 := As.mk (hst'.out.trans (if_pos (by omega)))
            have hr := As.mk (rd_none (hF.out.trans (readK_none hs2.out 27 (by omega))))
            subst hneg
            clear h6
            go_wp2_with (fail)
            refine (key _).mono ?_; rintro e w' ⟨rfl, rfl⟩
            go_wp2_with (refine store_blk rfl 23 _ _ rfl _ rfl (ds := u8s zero24) rfl X0 info_fl (by rfl) (by rfl) (u8s_one _) ?_)
            refine ret_blk_tmp rfl _ rfl (X0.setRow _) Tryd.underlying23 rfl info_fl (by rfl) rfl ⟨ret_v (by rw [hr.out.1, hr.out.2]; rfl), bl_setRow hb (by omega) _⟩
          · have hs2 := As.mk (hst'.out.trans (if_neg (by omega)))
            have hx24 : xs.length < 24 := by have := e1'.out; omega
            have hx24' : (xs.length : Int) < 24 := by omega
            have hcn : ¬ ci < 0 := by omega
            have hcw : IntKind.wrap .u8 ci = ci := wrap_small ci c0 c5
            obtain ⟨v2, d2⟩ := X1.some xs.length (by rw [u8s_length, hpl]; exact hx24)
            have f2 := X1.frozen xs.length
            have X3 := X1.set xs.length (.int .u8 ci)
            rw [u8s_set, padF_set hx24] at X3
            have X4 := X0.far (p := ⟨w.heap.size + 1, xs.length, none⟩) (by simp) (.int .u8 ci)
            have hb4 := hb.setCell (p := ⟨w.heap.size + 1, xs.length, none⟩) (by simp) (.int .u8 ci)
            clear h6 X0 X1 hb
            go_wp2_with (fail)
            refine (key _).mono ?_; rintro e w' ⟨rfl, rfl⟩
            go_wp2_with (fail)
            clear hcw d2 f2
            go_roundw
            case rel => exact ⟨k + 1, xs ++ [ci], by omega, by go_num, by simp, hs2, X4, X3, hb4⟩
            case measure => simp [intOf]; omega
      · obtain rfl : k = 27 := by omega
        have hr := As.mk (rd_some (hF.out.trans HK.out))
        have h24 : xs.length = 24 := by omega
        rw [padF_full h24] at X1
        have hs27 := As.mk h27
        have hlt' : ¬ (((27 : Nat) : Int) < ((s.size : Nat) : Int)) := by omega
        have hlt2 : ¬ ((27 : Int) < ((s.size : Nat) : Int)) := by omega
        clear e3 hpl hlt
        go_wp2_with (first | (refine load_blk rfl 23 _ rfl _ rfl X1 Tryd.underlying23 rfl info_fl (by rw [u8s_length]; exact h24) ?_) | (refine store_blk rfl 23 _ _ rfl _ rfl rfl X0 info_fl (by rw [u8s_length]; exact h24) (by rw [u8s_length]; exact hz) (u8s_one _) ?_))
        refine ret_blk_tmp rfl _ rfl (X0.setRow _) Tryd.underlying23 rfl info_fl (by rw [u8s_length]; exact h24) rfl ⟨ret_v (by rw [hr.out.1, hr.out.2]; rfl), bl_setRow hb (by omega) _⟩
  · have h27' : (((s.size : Nat) : Int) != 27) = true := by simp; omega
    have hr := As.mk (rd_none (L := s.data.toList) (by unfold readF; rw [if_neg (by rw [hsz]; exact h27)]))
    rw [hr.out.1, hr.out.2]
    have B0 : Blk (w.alloc (.cells #[.int .u8 0, .int .u8 0, .int .u8 0, .int .u8 0, .int .u8 0, .int .u8 0, .int .u8 0, .int .u8 0, .int .u8 0, .int .u8 0, .int .u8 0, .int .u8 0, .int .u8 0, .int .u8 0, .int .u8 0, .int .u8 0, .int .u8 0, .int .u8 0, .int .u8 0, .int .u8 0, .int .u8 0, .int .u8 0, .int .u8 0, .int .u8 0] 23)) w.heap.size (u8s zero24) 23 := Blk.mk _ (u8s zero24) _ rfl
    have c0 := bl_new (Below.refl _ w) (.cells #[.int .u8 0, .int .u8 0, .int .u8 0, .int .u8 0, .int .u8 0, .int .u8 0, .int .u8 0, .int .u8 0, .int .u8 0, .int .u8 0, .int .u8 0, .int .u8 0, .int .u8 0, .int .u8 0, .int .u8 0, .int .u8 0, .int .u8 0, .int .u8 0, .int .u8 0, .int .u8 0, .int .u8 0, .int .u8 0, .int .u8 0, .int .u8 0] 23)
    clear A0 A1 V0 V1 d0 b0
    go_enter Tryd.func5, Tryd.ntmps5
    go_wp2_with (refine store_blk rfl 23 _ _ rfl _ rfl (ds := u8s zero24) rfl B0 info_fl (by rfl) (by rfl) (u8s_one _) ?_)
    refine ret_blk_tmp rfl _ rfl (B0.setRow _) Tryd.underlying23 rfl info_fl (by rfl) rfl ⟨rfl, bl_setRow c0 (by omega) _⟩
end Go.Proofs.YtjppoejkfpeicaaDoor

/- Plain: what holds of any valid flags: mirrored, turned, counted, compared. -/
set_option linter.unusedVariables false
set_option linter.unusedSimpArgs false
namespace Go.Proofs.YtjppoejkfpeicaaDoor
open Go.RowKit

theorem list_ext24 {xs ys : List Int} (hx : xs.length = 24) (hy : ys.length = 24) (h : ∀ i, i < 24 → nth xs i = nth ys i) : xs = ys := by
  apply List.ext_getElem (by omega)
  intro i h1 h2
  rw [nth_get _ _ h1, nth_get _ _ h2]; exact h i (by omega)
theorem mir_nth (f : List Int) {i : Nat} (hi : i < 24) : nth (mirrorL f) i = nth f (5 - i % 6 + 6 * (i / 6)) := nth_map_range _ _ _ hi
theorem turn_nth (f : List Int) {i : Nat} (hi : i < 24) : nth (turnL f) i = nth f (23 - i) := nth_map_range _ _ _ hi
theorem Fine.mirror {f : List Int} (h : Fine f) : Fine (mirrorL f) := Fine.of_map _ fun i _ => h.nth _
theorem Fine.turn {f : List Int} (h : Fine f) : Fine (turnL f) := Fine.of_map _ fun i _ => h.nth _
theorem mirror_mirror {f : List Int} (h : Fine f) : mirrorL (mirrorL f) = f := list_ext24 (mirrorL_length _) h.1 fun i hi => by
  rw [mir_nth _ hi, mir_nth _ (by omega), show 5 - (5 - i % 6 + 6 * (i / 6)) % 6 + 6 * ((5 - i % 6 + 6 * (i / 6)) / 6) = i by omega]
theorem turn_turn {f : List Int} (h : Fine f) : turnL (turnL f) = f := list_ext24 (turnL_length _) h.1 fun i hi => by
  rw [turn_nth _ hi, turn_nth _ (by omega), show 23 - (23 - i) = i by omega]
theorem count_rev (p : Nat → Bool) : (List.range 24).countP (fun i => p (23 - i)) = (List.range 24).countP p := by
  have h1 : (List.range 24).map (fun i => 23 - i) = (List.range 24).reverse := by decide +kernel
  have h2 := List.countP_map (p := p) (f := fun i => 23 - i) (l := List.range 24)
  rw [h1, List.countP_reverse] at h2
  rw [h2, Function.comp_def]
theorem count_turn (f : List Int) : countL (turnL f) 24 = countL f 24 := by
  unfold countL
  apply List.map_congr_left
  intro c _
  unfold cnt
  rw [← count_rev (fun i => nth f i == (c : Int))]
  congr 1
theorem diffs_turn (f g : List Int) : diffs (turnL f) (turnL g) 24 = diffs f g 24 := by
  unfold diffs
  rw [← count_rev (fun i => nth f i != nth g i)]
  congr 1
theorem diffs_self (f : List Int) : ∀ k, diffs f f k = 0
  | 0 => rfl
  | k + 1 => by rw [diffs_succ, diffs_self f k]; simp
theorem diffs_tri (f g h : List Int) : ∀ k, diffs f h k ≤ diffs f g k + diffs g h k
  | 0 => by simp [diffs_zero]
  | k + 1 => by
    have := diffs_tri f g h k
    rw [diffs_succ, diffs_succ, diffs_succ]
    by_cases a : nth f k = nth g k
    · rw [a]; simp; omega
    · have h1 : (nth f k != nth g k) = true := by simp [a]
      rw [if_pos h1]
      split <;> split <;> omega
theorem diffs_nil {f g : List Int} : ∀ {k : Nat}, diffs f g k = 0 → ∀ i, i < k → nth f i = nth g i
  | 0, _, i, hi => by omega
  | k + 1, h, i, hi => by
    have hb := diffs_bd f g k
    rw [diffs_succ] at h
    by_cases a : nth f k = nth g k
    · have h1 : (nth f k != nth g k) = false := by simp [a]
      rw [h1] at h
      rcases Nat.lt_or_eq_of_le (Nat.le_of_lt_succ hi) with hi | rfl
      · exact diffs_nil (by simpa using h) i hi
      · exact a
    · have h1 : (nth f k != nth g k) = true := by simp [a]
      rw [if_pos h1] at h; omega
theorem diffs_eq {f g : List Int} (hf : Fine f) (hg : Fine g) : decide (diffs f g 24 = 0) = decide (f = g) := by
  rw [decide_eq_decide]
  refine ⟨fun h => list_ext24 hf.1 hg.1 fun i hi => diffs_nil h i hi, ?_⟩
  rintro rfl
  exact diffs_self _ _
theorem dist_fine {f g : List Int} (hf : Fine f) (hg : Fine g) : distN f g = diffs f g 24 := by unfold distN; rw [hf.vf, hg.vf]; rfl
theorem far_fine {f g : List Int} (hf : Fine f) (hg : Fine g) : farN f g = farD f g := by unfold farN farD; rw [hf.vf, hg.vf]; rfl

theorem blurF_congr {f g : List Int} {b : Nat} (h : ∀ m, m < 4 → nth f (pos b m) = nth g (pos b m)) : blurF f b = blurF g b := by
  have : cntB f b 4 = cntB g b 4 := by
    funext c
    unfold cntB
    congr 1
    apply List.countP_congr
    intro i hi
    rw [h i (List.mem_range.1 hi)]
  unfold blurF
  rw [this]
/-- 1 where two flags differ. -/
def dif (f g : List Int) (i : Nat) : Int := if nth f i != nth g i then 1 else 0
theorem dif_bd (f g : List Int) (i : Nat) : 0 ≤ dif f g i ∧ dif f g i ≤ 1 := by unfold dif; split <;> omega
theorem dif_zero {f g : List Int} {i : Nat} (h : dif f g i ≤ 0) : nth f i = nth g i := by
  unfold dif at h
  by_cases a : nth f i = nth g i
  · exact a
  · rw [if_pos (by simp [a])] at h; omega
theorem blur_dif (f g : List Int) (b : Nat) (hb : b < 6) : (if nth (blurL f) b != nth (blurL g) b then (1 : Int) else 0) ≤ dif f g (pos b 0) + dif f g (pos b 1) + dif f g (pos b 2) + dif f g (pos b 3) := by
  have e0 := dif_bd f g (pos b 0)
  have e1 := dif_bd f g (pos b 1)
  have e2 := dif_bd f g (pos b 2)
  have e3 := dif_bd f g (pos b 3)
  by_cases a : nth (blurL f) b = nth (blurL g) b
  · rw [if_neg (by simp [a])]; omega
  · rw [if_pos (by simp [a])]
    by_cases h0 : 1 ≤ dif f g (pos b 0) + dif f g (pos b 1) + dif f g (pos b 2) + dif f g (pos b 3)
    · exact h0
    · exfalso
      apply a
      rw [show nth (blurL f) b = blurF f b from nth_map_range _ _ _ hb, show nth (blurL g) b = blurF g b from nth_map_range _ _ _ hb]
      apply blurF_congr
      intro m hm
      have : m = 0 ∨ m = 1 ∨ m = 2 ∨ m = 3 := by omega
      rcases this with rfl | rfl | rfl | rfl <;> exact dif_zero (by omega)
theorem far_le (f g : List Int) : farD f g ≤ diffs f g 24 := by
  have hs : ∀ k, diffs f g (k + 1) = diffs f g k + dif f g k := fun k => diffs_succ f g k
  have b0 := blur_dif f g 0 (by omega)
  have b1 := blur_dif f g 1 (by omega)
  have b2 := blur_dif f g 2 (by omega)
  have b3 := blur_dif f g 3 (by omega)
  have b4 := blur_dif f g 4 (by omega)
  have b5 := blur_dif f g 5 (by omega)
  simp only [pos, Nat.reduceMod, Nat.reduceDiv, Nat.reduceMul, Nat.reduceAdd] at b0 b1 b2 b3 b4 b5
  unfold farD
  simp only [diffs_succ (blurL f) (blurL g), diffs_zero, hs]
  omega
theorem looks_far {f g : List Int} (hf : Fine f) (hg : Fine g) : looksB f g false = decide (farD f g = 0) := by
  unfold looksB
  rw [hf.vf, hg.vf]
  by_cases h : farD f g = 0 <;> simp [h]
theorem looks_mirror {f : List Int} (hf : Fine f) : looksB (mirrorL f) f true = true := by
  unfold looksB
  rw [hf.mirror.vf, hf.vf, mirror_mirror hf]
  have : farD f f = 0 := diffs_self _ _
  rw [this]; simp
theorem down_turn {f : List Int} (hf : Fine f) : downB f (turnL f) = true := by
  unfold downB
  rw [hf.vf, hf.turn.vf]; simp
theorem nth_put (xs : List Int) (i k : Nat) (x : Int) (h : i < xs.length) : nth (xs.set i x) k = if k = i then x else nth xs k := by
  unfold nth
  simp only [List.getD_eq_getElem?_getD, List.getElem?_set]
  by_cases e : k = i
  · subst e; simp [h]
  · rw [if_neg (fun a => e a.symm), if_neg e]
theorem paint_facts {f : List Int} (hf : Fine f) {x y c : Int} (hx : 0 ≤ x ∧ x < 6) (hy : 0 ≤ y ∧ y < 4) (hc : 0 ≤ c ∧ c < 6) :
    paintC f x y c = 0 ∧ Fine (paintL f x y c) ∧ cellN (paintL f x y c) x y = c ∧ cellC (paintL f x y c) x y = 0 ∧ diffs f (paintL f x y c) 24 ≤ 1 := by
  have i1 : inR x 0 5 = true := by simp [inR]; omega
  have i2 : inR y 0 3 = true := by simp [inR]; omega
  have i3 : inR c 0 5 = true := by simp [inR]; omega
  have ok : paintOk f x y c = true := by unfold paintOk; rw [hf.vf, i1, i2, i3]; rfl
  have e : paintL f x y c = f.set (x + 6 * y).toNat c := by unfold paintL okF; rw [if_pos ok]
  have fn : Fine (f.set (x + 6 * y).toNat c) := hf.set _ _ hc.1 (by omega)
  have hl := hf.1
  have hk : (x + 6 * y).toNat < 24 := by omega
  rw [e]
  refine ⟨by unfold paintC; rw [hf.vf, i1, i2, i3]; rfl, fn, ?_, by unfold cellC; rw [fn.vf, i1, i2]; rfl, ?_⟩
  · unfold cellN
    rw [fn.vf, i1, i2]
    simp only [Bool.and_self, if_true]
    rw [nth_put _ _ _ _ (by omega), if_pos rfl]
  · generalize (x + 6 * y).toNat = i at *
    have key : ∀ k, diffs f (f.set i c) k ≤ if i < k then 1 else 0 := by
      intro k
      induction k with
      | zero => simp [diffs_zero]
      | succ k ih =>
        rw [diffs_succ, nth_put _ _ _ _ (by omega)]
        by_cases hki : k = i
        · subst hki
          rw [if_neg (by omega)] at ih
          rw [if_pos (show k < k + 1 by omega)]
          split <;> omega
        · rw [if_neg hki]
          simp only [bne_self_eq_false, Bool.false_eq_true, if_false]
          by_cases hlt : i < k
          · rw [if_pos hlt] at ih; rw [if_pos (by omega)]; omega
          · rw [if_neg hlt] at ih; rw [if_neg (by omega)]; omega
    have := key 24
    rw [if_pos hk] at this; exact this
theorem rec_facts {f : List Int} (hf : Fine f) {p q : Nat} (hp : p < 6) (hq : q < 6) (hpq : p ≠ q) :
    recC f p q = 0 ∧ Fine (recL f p q) ∧ nth (countL (recL f p q) 24) p = 0 ∧ nth (countL (recL f p q) 24) q = nth (countL f 24) p + nth (countL f 24) q := by
  have ha : aC [(p : Int), (q : Int)] = true := by simp [aC, inR]; omega
  have e : recL f p q = recK f p q 24 := by unfold recL okF; rw [hf.vf, ha]; rfl
  have hn : ∀ i, i < 24 → nth (recK f p q 24) i = if nth f i = p then (q : Int) else nth f i := fun i hi => by
    rw [show nth (recK f p q 24) i = recF f p q 24 i from nth_map_range _ _ _ hi]
    unfold recF
    by_cases h : nth f i = p
    · rw [if_pos ⟨hi, h⟩, if_pos h]
    · rw [if_neg (fun a => h a.2), if_neg h]
  have fn : Fine (recK f p q 24) := Fine.of_map _ fun i _ => by
    unfold recF
    have := hf.nth i
    split <;> omega
  rw [e]
  refine ⟨by unfold recC; rw [hf.vf, ha]; rfl, fn, ?_⟩
  rw [countL_nth _ _ _ hp, countL_nth _ _ _ hq, countL_nth _ _ _ hp, countL_nth _ _ _ hq]
  have key : ∀ k, k ≤ 24 → cnt (recK f p q 24) k p = 0 ∧ cnt (recK f p q 24) k q = cnt f k p + cnt f k q := by
    intro k
    induction k with
    | zero => intro _; exact ⟨rfl, rfl⟩
    | succ k ih =>
      intro hk
      obtain ⟨i1, i2⟩ := ih (by omega)
      rw [cnt_succ, cnt_succ, cnt_succ, cnt_succ, hn k (by omega), i1, i2]
      by_cases h : nth f k = p
      · rw [if_pos h, h]
        have h1 : ((q : Int) == (p : Int)) = false := by simp; omega
        have h2 : ((p : Int) == (q : Int)) = false := by simp; omega
        rw [h1, h2]; simp; omega
      · rw [if_neg h]
        have h1 : (nth f k == (p : Int)) = false := by simp [h]
        rw [h1]; simp; omega
  exact key 24 (by omega)
theorem read_text {f : List Int} (h : Fine f) : rdL (flagText f).data.toList = f ∧ rdC (flagText f).data.toList = 0 ∧ (flagText f).size ≤ 1048576 := by
  have e : flagText f = strOfNums (textL f 24) := by unfold flagText; rw [h.vf]; rfl
  rw [e]
  have hl : (strOfNums (textL f 24)).size = (txt f).length := by rw [← str_txt]; rfl
  rw [str_txt, hl]
  have hr : readF (txt f) = some f := (readF_iff _ _).2 ⟨h.2, h.1, rfl⟩
  refine ⟨(rd_some hr).1, (rd_some hr).2, ?_⟩
  rw [txt_pre]
  simp [pre]
end Go.Proofs.YtjppoejkfpeicaaDoor

/- Steps for the law of patterns: lists of numbers compared, a slice appended to bytes, whole arrays stored. -/
set_option linter.unusedVariables false
set_option linter.unusedSimpArgs false
namespace Go.Proofs.YtjppoejkfpeicaaDoor
open Go.RowKit

theorem run_equalIn_i64s {P : Program} (w : World) (d : Nat) (t e : TypeId) (n : Nat) (ht : P.underlying t = some (.array n e)) (he : P.underlying e = some (.int .i64)) (ha : (P.info? e).map (·.size) = some 1) (hag : ∀ w, (isAgg e).run P w = .ok false w)
    (xs ys : List Int) (hx : xs.length = n) (hy : ys.length = n) :
    (Op.equalIn (d + 2) t (.agg (i64s xs).toArray) (.agg (i64s ys).toArray)).run P w = .ok (decide (xs = ys)) w := by
  have hs : ∀ w, (sizeOf e).run P w = .ok 1 w := by
    intro w
    cases hq : P.info? e with
    | none => simp [hq] at ha
    | some i => simp [hq] at ha; simp [sizeOf, typeInfo, hq, ha]
  have hp : ∀ (zs : List Int) (i : Nat), i < zs.length → (Go.part e (i64s zs).toArray i).run P w = .ok (.int .i64 (nth zs i)) w := by
    intro zs i hi
    have := i64s_get zs i hi
    simp only [Go.part, Sem.run_bind, hag, Result.andThen_ok]
    simp [this]
  have key : ∀ (m s : Nat), s + m = n → (forIn (List.range' s m) (none, ()) fun i (__s : Option Bool × Unit) => do
            let __do_lift ← Go.part e (i64s xs).toArray (i * 1)
            let __do_lift_1 ← Go.part e (i64s ys).toArray (i * 1)
            let __do_lift ← Op.equalIn (d + 1) e __do_lift __do_lift_1
            if (!__do_lift) = true then pure (ForInStep.done (some false, ())) else pure (ForInStep.yield (none, ())) : Sem (Option Bool × Unit)).run P w
      = .ok (if (List.range' s m).all (fun i => nth xs i == nth ys i) then (none, ()) else (some false, ())) w := by
    intro m
    induction m with
    | zero => intro s _; simp [Sem.run_pure]
    | succ m ih =>
      intro s hsm
      rw [List.range'_succ, List.forIn_cons]
      simp only [Sem.run_bind, Nat.mul_one, hp xs s (by omega), hp ys s (by omega), Result.andThen_ok, run_equalIn_int w d e .i64 .i64 _ _ he]
      rw [List.all_cons]
      cases h : nth xs s == nth ys s
      · simp [Sem.run_pure]
      · simp only [Bool.not_true, Bool.false_eq_true, if_false, Sem.run_pure, Result.andThen_ok, Bool.true_and]
        have := ih (s + 1) (by omega)
        simpa [Nat.mul_one] using this
  rw [Op.equalIn]
  simp only [Sem.run_bind, run_underlying ht, Result.andThen_ok, hs, Std.Legacy.Range.forIn_eq_forIn_range']
  have hk := key n 0 (by omega)
  rw [list_eq_nth xs ys n hx hy] at hk
  simp only [Std.Legacy.Range.size, Nat.sub_zero, Nat.add_sub_cancel, Nat.div_one] at hk ⊢
  rw [hk]
  cases hd : decide (xs = ys) <;> simp [Sem.run_pure, Result.andThen]
theorem run_neq_i64s {P : Program} (t e : TypeId) (n : Nat) (ht : P.underlying t = some (.array n e)) (he : P.underlying e = some (.int .i64)) (ha : (P.info? e).map (·.size) = some 1) (hag : ∀ w, (isAgg e).run P w = .ok false w)
    (xs ys : List Int) (hx : xs.length = n) (hy : ys.length = n) (w : World) :
    (binOp .neq t (.agg (i64s xs).toArray) (.agg (i64s ys).toArray)).run P w = .ok (.bool (!decide (xs = ys))) w := by
  rw [run_neq_struct, run_equalIn_i64s w 9998 t e n ht he ha hag xs ys hx hy]
  rfl

theorem guard_n6 : Tryd.prog.eqGuardType Tryd.prog.depth 33 = false := by kernel_rfl
theorem guard_b6 : Tryd.prog.eqGuardType Tryd.prog.depth 39 = false := by kernel_rfl
theorem neq_n6 (xs ys : List Int) (hx : xs.length = 6) (hy : ys.length = 6) (w : World) : (binOp .neq 33 (.agg (i64s xs).toArray) (.agg (i64s ys).toArray)).run Tryd.prog w = .ok (.bool (!decide (xs = ys))) w :=
  run_neq_i64s 33 2 6 Tryd.underlying33 Tryd.underlying2 (by kernel_rfl) (fun w => Tryd.isAgg2 w) xs ys hx hy w
theorem neq_b6 (xs ys : List Int) (hx : xs.length = 6) (hy : ys.length = 6) (w : World) : (binOp .neq 39 (.agg (u8s xs).toArray) (.agg (u8s ys).toArray)).run Tryd.prog w = .ok (.bool (!decide (xs = ys))) w :=
  run_neq_u8s 39 5 6 Tryd.underlying39 Tryd.underlying5 (by kernel_rfl) (fun w => Tryd.isAgg5 w) xs ys hx hy w

section
variable {P : Program} {ops : Array Oper} {rest : List Oper} {op : Oper} {a : Act} {w : World} {Q : Exit → Act → World → Prop}
/-- A whole array into a block; the walk stops behind it. -/
theorem store_stop2 (hgd : Region.wanted op (yielded ops a.tmps) = true) (ty : TypeId) (x y : Operand) (ho : op.op = .store ty x y) (b : Nat) (hx : a.eval x = .pointer (some ⟨b, 0, none⟩)) {ds : List Value} (hy : a.eval y = .agg ds.toArray)
    {cs : List Value} {t : TypeId} (hB : Blk w b cs t) {n : Nat} (hi : (P.info? ty).map (·.size) = some n) (hn : ds.length = n) (hc : cs.length = n) (h1 : ∀ v ∈ ds, v.oneCell' = true)
    (h : As (wpList P ops Q rest (a.put op.dst undef) (w.setRow b ds.toArray))) : wpList P ops Q (op :: rest) a w :=
  store_blk hgd ty x y ho b hx hy hB hi hn hc h1 h.out
/-- One operation whose value is told. -/
theorem stepV2 (v : Value) (hgd : Region.wanted op (yielded ops a.tmps) = true) (he : (execOp a.eval op).run P w = .ok (.value v) w) (h : wpList P ops Q rest (a.put op.dst v) w) : wpList P ops Q (op :: rest) a w :=
  BigFrame.wpList_want hgd fun _ hK => by
    unfold Oper.wp
    rw [he, Oper.upon_value]
    exact hK _ _ h
theorem run_append_none_c (base : Nat) (t ty e : TypeId) (i : TypeInfo) (size c : Nat) (ht : P.underlying t = some (.slice e)) (hi : P.info? e = some i)
    (v : Value) (n : Nat) (xs : List Value) (hown : w.ownsRow base e size v n xs) :
    (Builtin.append_ #[t, t] ty #[v, .slice none 0 c]).run P w = .ok v w := by
  rcases hown.2 with ⟨rfl, rfl⟩ | ⟨g, cap, cur, rfl, _, _, hnc, _⟩
  · simp [Builtin.append_, run_underlying ht, sizeOf, typeInfo, hi, Builtin.lenOf, Builtin.firstCells]
  · simp [Builtin.append_, run_underlying ht, sizeOf, typeInfo, hi, Builtin.lenOf, Builtin.firstCells, hnc, storeCells]
/-- append(v, xs...), xs a slice that came in. -/
theorem appSl {w0 : World} (base : Nat) (hgd : op.guard = none) (s x : Operand) (t e : TypeId) (z : Value) (bytes : Nat) (k : IntKind)
    (ho : op.op = .call { callee := .builtin .append, args := #[s, x], argTypes := #[t, t] })
    (ht : P.underlying t = some (.slice e)) (hinfo : (P.info? e).map (fun i => (i.zero, i.size, i.bytes)) = some (some z, 1, bytes)) (hz : z.cells.size = 1)
    (v : Value) (cs : List Value) (ys : List Int) (A : Option Addr) (c m : Nat) (hs : a.eval s = v) (hx : a.eval x = .slice A m c) (hm : m = ys.length)
    (HO : Own w base e v cs) (hS : Sl k w A ys) (HB : Below base w0 w) (hbase : base ≤ w.heap.size) (h63 : cs.length + m ≤ maxLen) (hl : (cs.length + m) * bytes ≤ 140737488355328)
    (h : ∀ v1 w1, Own w1 base e v1 (cs ++ ys.map (Value.int k)) → Below base w0 w1 → wpList P ops Q rest (a.put op.dst v1) w1) : wpList P ops Q (op :: rest) a w := by
  obtain ⟨i0, hi, hzz⟩ := Option.map_eq_some_iff.1 hinfo
  simp only [Prod.mk.injEq] at hzz
  obtain ⟨hz0, hz1, hz2⟩ := hzz
  subst hm
  cases A with
  | none =>
    have h0 : ys = [] := by
      cases ys with
      | nil => rfl
      | cons y ys => obtain ⟨b, o, e, _⟩ := hS.2 (by simp); cases e
    subst h0
    refine wpList_plain hgd fun K hK => ?_
    have hrun := run_append_none_c (P := P) (w := w) base t op.type e i0 1 c ht hi v _ _ HO
    unfold Oper.wp
    simp [execOp, ho, resolve, invoke, builtin, hs, hx, hrun, Result.andThen]
    exact hK _ _ (h v w (by simpa using HO) HB)
  | some ad =>
    refine wpList_append_own_at w hgd s x t ho base e i0 z 1 bytes ht hi hz0 hz1 hz2 hz (by omega) v cs.length cs hs HO ad ys.length c (ys.map (Value.int k)) hx (by simp)
      (fun j u hu => ?_) (fun u hu => by obtain ⟨n, _, rfl⟩ := List.mem_map.1 hu; rfl) h63 hl hbase ?_
    · have hlt : 0 < ys.length := by have := (List.getElem?_eq_some_iff.1 hu).1; rw [List.length_map] at this; omega
      obtain ⟨b, o, e, hr⟩ := hS.2 hlt
      obtain rfl : ad = ⟨b, o, none⟩ := Option.some.inj e
      have := hr j u hu
      rwa [show (⟨b, o, none⟩ : Addr).add j = ⟨b, o + j, none⟩ from Addr.add_mid _ _ _]
    · intro v1 w1 hown hg _ hat
      exact h v1 w1 (by unfold Own; rw [List.length_append, List.length_map]; exact hown) (HB.grown hg hbase (fun k hk => Own.ge HO k hk))
end
theorem f6p_ok (A : Option Addr) (n c : Nat) (h : n ≤ 4096) (w : World) : Calls Tryd.prog 8 #[.slice A n c] w fun e w' => e = .returned (.bool false) ∧ w = w' := by
  have h' : ¬ ((4096 : Int) < (n : Int)) := by omega
  have h2 : (n : Int) ≤ 4096 := by omega
  go_enter Tryd.func8, Tryd.ntmps8
  go_wp2
  go_ret
  exact ⟨rfl, rfl⟩
theorem f6p_big (A : Option Addr) (n c : Nat) (h : ¬ n ≤ 4096) (w : World) : Calls Tryd.prog 8 #[.slice A n c] w fun e w' => e = .returned (.bool true) ∧ w = w' := by
  have h' : (4096 : Int) < (n : Int) := by omega
  go_enter Tryd.func8, Tryd.ntmps8
  go_wp2
  go_ret
  exact ⟨rfl, rfl⟩
end Go.Proofs.YtjppoejkfpeicaaDoor
