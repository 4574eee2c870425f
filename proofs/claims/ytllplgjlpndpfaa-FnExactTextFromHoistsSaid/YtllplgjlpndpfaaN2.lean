/- Contracts: TextFromHoists: both sides. -/
import Derived.Test.YtllplgjlpndpfaaN1
import Derived.Test.YtllplgjlpndpfaaH6
import Derived.Test.YtllplgjlpndpfaaJn
import Derived.Test.YtllplgjlpndpfaaF2
set_option linter.unusedVariables false
namespace Go.Proofs.Ytllplgjlpndpfaa
open Go.RowKit

set_option maxHeartbeats 400000 in
theorem IndexFunc_h (g : Nat) (lb : Array Value) (eg : ∀ args w, (callFunc g args).run Try.prog w = .ok (.enter g args) w) (vs : Nat → Value) (n : Nat) (p : Nat → Bool) (A : Option Addr) (c : Nat) (w : World)
    (hp : Pred g lb vs n p w) (hbig : n ≤ 9223372036854775807) (hs : 0 < n → ∃ b o, A = some ⟨b, o, none⟩ ∧ ∀ j, j < n → w.cell? ⟨b, o + j, none⟩ = some (vs j)) :
    Calls Try.prog 73 #[.slice A n c, .func (.func g) #[] lb] w fun e w' => e = .returned (.int .i64 (firstIdx p n 0)) ∧ Below w.heap.size w w' := by
  go_enter Try.func73, Try.ntmps73
  go_wp2
  go_loopw [5, 8] (fun _ i wr => ∃ k : Nat, k ≤ n ∧ i = .int .i64 k ∧ Below w.heap.size w wr ∧ As (∀ j, j < k → p j = false)) (fun _ i _ => n - (intOf i).toNat)
  case atStart => exact ⟨0, by omega, rfl, Below.refl _ _, ⟨fun j hj => by omega⟩⟩
  case round =>
    obtain ⟨k, hk, rfl, hb, H⟩ := hrel
    by_cases hlt : k < n
    · have hlt' : (k : Int) < (n : Int) := by omega
      obtain ⟨b, o, rfl, hr⟩ := hs (by omega)
      have h0 := hr k hlt
      have c0 : wr.cell? ⟨b, o + k, none⟩ = some (vs k) := by rw [hb.cell (World.block_lt_of_cell? w _ h0)]; exact h0
      clear h0 hr
      have hcall := hp wr k hlt hb
      cases hq : p k with
      | true =>
        rw [hq] at hcall
        go_wp2_with (refine hcall.mono ?_; rintro e w' ⟨rfl, hb'⟩)
        go_ret
        exact ⟨ret_n (by rw [firstIdx_hit p n 0 k hlt (by simpa using H.out) (by simpa using hq)]; simp), bl_call hb hb'⟩
      | false =>
        rw [hq] at hcall
        go_wp2_with (refine hcall.mono ?_; rintro e w' ⟨rfl, hb'⟩)
        go_roundw
        case rel => exact ⟨k + 1, by omega, by go_num, bl_call hb hb', ⟨all_succ H.out hq⟩⟩
        case measure => simp [intOf]; omega
    · obtain rfl : k = n := by omega
      go_wp2
      go_ret
      exact ⟨ret_n (by rw [firstIdx_miss p k 0 (by simpa using H.out)]), hb⟩
theorem ContainsFunc_h (g : Nat) (lb : Array Value) (eg : ∀ args w, (callFunc g args).run Try.prog w = .ok (.enter g args) w) (vs : Nat → Value) (n : Nat) (p : Nat → Bool) (A : Option Addr) (c : Nat) (w : World)
    (hp : Pred g lb vs n p w) (hbig : n ≤ 9223372036854775807) (hs : 0 < n → ∃ b o, A = some ⟨b, o, none⟩ ∧ ∀ j, j < n → w.cell? ⟨b, o + j, none⟩ = some (vs j)) :
    Calls Try.prog 63 #[.slice A n c, .func (.func g) #[] lb] w fun e w' => e = .returned (.bool (anyBelow p n)) ∧ Below w.heap.size w w' := by
  rw [← firstIdx_nonneg]
  go_enter Try.func63, Try.ntmps63
  go_wp2_with (fail)
  refine (IndexFunc_h g lb eg vs n p A c _ hp hbig hs).mono ?_; rintro e w1 ⟨rfl, hb⟩
  go_wp2_with (fail)
  go_ret
  exact ⟨rfl, hb⟩

/-- All hoists are in bounds. -/
def HB (hs : List (List Int)) : Prop := ∀ xs ∈ hs, ∀ n ∈ xs, -128 ≤ n ∧ n ≤ 127
def hoists (hs : List (List Int)) : Bool := hs.all hOk
theorem any_hoists (hs : List (List Int)) : anyBelow (fun k => !hOk (nthH hs k)) hs.length = !hoists hs := by
  unfold anyBelow hoists
  cases h : hs.all hOk
  · rw [List.all_eq_false] at h
    obtain ⟨f, hf, hv⟩ := h
    obtain ⟨i, hi, rfl⟩ := List.mem_iff_getElem.1 hf
    simp only [Bool.not_false, List.any_eq_true]
    refine ⟨i, List.mem_range.2 hi, ?_⟩
    rw [← nthH_get hs i hi]
    simpa using hv
  · rw [List.all_eq_true] at h
    simp only [Bool.not_true, List.any_eq_false]
    intro i hi
    rw [List.mem_range] at hi
    have := h _ (nthH_mem hs i hi)
    simp [this]
theorem hoists_at {hs : List (List Int)} (h : hoists hs = true) (k : Nat) (hk : k < hs.length) : hOk (nthH hs k) = true := by
  unfold hoists at h; rw [List.all_eq_true] at h
  exact h _ (nthH_mem hs k hk)
theorem hoists_bad {hs : List (List Int)} (k : Nat) (hk : k < hs.length) (h : hOk (nthH hs k) = false) : hoists hs = false := by
  unfold hoists; rw [List.all_eq_false]; exact ⟨_, nthH_mem hs k hk, by simp [h]⟩
theorem hoists_good {hs : List (List Int)} (h : ∀ k, k < hs.length → hOk (nthH hs k) = true) : hoists hs = true := by
  unfold hoists; rw [List.all_eq_true]
  intro x hx
  obtain ⟨i, hi, rfl⟩ := List.mem_iff_getElem.1 hx
  rw [nthH_get hs i hi]; exact h i hi

/-! What a hoist means is a meaning. -/
theorem hStep_again {o o' : List Int} {g g' k : Nat} {n : Int} (inv : HInv o g k) (h : hStep o g n = some (o', g')) (ext : List Int) : hStep o g (nth (o' ++ ext) k) = some (o', g') := by
  have hk := inv.len
  have hn : ∀ y : Int, nth (o ++ [y] ++ ext) k = y := fun y => by
    unfold nth; rw [← hk]; simp
  unfold hStep at h
  split at h
  · rename_i hx
    split at h
    · cases h
    · rename_i hg
      simp only [Option.some.injEq, Prod.mk.injEq] at h
      obtain ⟨rfl, rfl⟩ := h
      rw [hx, hn, hStep_brk hg]
  · split at h
    · rename_i hx
      simp only [Option.some.injEq, Prod.mk.injEq] at h
      obtain ⟨rfl, rfl⟩ := h
      rw [hn, hStep_kind hx.1 hx.2]
    · split at h
      · rename_i hx
        simp only [Option.some.injEq, Prod.mk.injEq] at h
        obtain ⟨rfl, rfl⟩ := h
        have := inv.kinds (g + ((-n).toNat - 1)) (by omega) (by rw [← hk]; exact hx.2.2)
        rw [hn, hStep_kind this.1 this.2]
      · cases h
theorem hRead_again (xs : List Int) : ∀ (k : Nat) (o : List Int) (g : Nat), hRead xs k = some (o, g) → ∀ ext, hRead (o ++ ext) k = some (o, g)
  | 0, o, g, h, ext => by simpa [hRead] using h
  | k + 1, o', g', h, ext => by
    cases e : hRead xs k with
    | none => simp [hRead, e] at h
    | some p =>
      obtain ⟨o, g⟩ := p
      rw [hRead_succ e] at h
      have inv := hRead_inv _ _ _ _ e
      have hpre : ∃ y, o' = o ++ [y] := by
        unfold hStep at h
        split at h
        · split at h
          · cases h
          · simp only [Option.some.injEq, Prod.mk.injEq] at h; exact ⟨_, h.1.symm⟩
        · split at h
          · simp only [Option.some.injEq, Prod.mk.injEq] at h; exact ⟨_, h.1.symm⟩
          · split at h
            · simp only [Option.some.injEq, Prod.mk.injEq] at h; exact ⟨_, h.1.symm⟩
            · cases h
      obtain ⟨y, hy⟩ := hpre
      have ih := hRead_again xs k o g e ([y] ++ ext)
      rw [← List.append_assoc, ← hy] at ih
      rw [hRead_succ ih]
      exact hStep_again inv h ext
theorem mean_mOk {xs : List Int} (h : hOk xs = true) : mOk (hMean xs) = true := by
  obtain ⟨g, e⟩ := hOk_read h
  have hl := hMean_length h
  have h2 := hRead_again _ _ _ _ e []
  rw [List.append_nil, ← hl] at h2
  unfold mOk
  rw [hOk_some h2, hl, ← hOk_some e, h, Bool.true_and, List.all_eq_true]
  intro n hn
  rcases hMean_all h n hn with h' | h'
  · rw [h']; rfl
  · unfold isMn; simp [h'.1]
theorem mean_bd {xs : List Int} (h : hOk xs = true) : ∀ n ∈ hMean xs, -128 ≤ n ∧ n ≤ 127 := fun n hn => by
  rcases hMean_all h n hn with h' | h' <;> omega

/-! The text. -/
def wordAt (hs : List (List Int)) (k : Nat) : ByteArray := word (hMean (nthH hs k))
def txt (hs : List (List Int)) : Nat → ByteArray
  | 0 => ⟨#[]⟩
  | k + 1 => (if 0 < k then txt hs k ++ ⟨#[32]⟩ else txt hs k) ++ wordAt hs k
def wordsAt (hs : List (List Int)) (k : Nat) : List ByteArray := (List.range k).map (wordAt hs)
def wordsOk (hs : List (List Int)) : Bool := (List.range hs.length).all fun k => spellOk (hMean (nthH hs k))
theorem wordsOk_bad {hs : List (List Int)} (k : Nat) (hk : k < hs.length) (h : spellOk (hMean (nthH hs k)) = false) : wordsOk hs = false := by
  unfold wordsOk; rw [List.all_eq_false]; exact ⟨k, List.mem_range.2 hk, by simp [h]⟩
theorem wordsOk_good {hs : List (List Int)} (h : ∀ k, k < hs.length → spellOk (hMean (nthH hs k)) = true) : wordsOk hs = true := by
  unfold wordsOk; rw [List.all_eq_true]; intro k hk; exact h k (List.mem_range.1 hk)
theorem words_succ (hs : List (List Int)) (k : Nat) : wordsAt hs (k + 1) = wordsAt hs k ++ [wordAt hs k] := by simp [wordsAt, List.range_succ]
theorem words_len (hs : List (List Int)) (k : Nat) : (wordsAt hs k).length = k := by simp [wordsAt]
theorem join_snoc (xs : List (List UInt8)) (y sep : List UInt8) (h : xs ≠ []) : Lib.join (xs ++ [y]) sep = Lib.join xs sep ++ sep ++ y := by
  cases xs with
  | nil => exact absurd rfl h
  | cons x r =>
    rw [List.cons_append, Lib.join_cons, Lib.join_cons]
    simp [Lib.joinTail, List.append_assoc]
theorem txt_join (hs : List (List Int)) : ∀ k, (txt hs k).data.toList = Lib.join ((wordsAt hs k).map (·.data.toList)) [32]
  | 0 => rfl
  | k + 1 => by
    have ih := txt_join hs k
    rw [words_succ, List.map_append, List.map_cons, List.map_nil]
    by_cases hk : 0 < k
    · rw [join_snoc _ _ _ (by rw [← List.length_pos_iff, List.length_map, words_len]; exact hk), ← ih]
      simp [txt, hk]
    · obtain rfl : k = 0 := by omega
      simp [txt, wordsAt, Lib.join]
def textS (hs : List (List Int)) : ByteArray := if hoists hs then (if decide (hs.length ≤ 100) && wordsOk hs then txt hs hs.length else ⟨#[]⟩) else ⟨#[]⟩
def textC (hs : List (List Int)) : Int := if hoists hs then (if decide (hs.length ≤ 100) && wordsOk hs then 0 else 2) else 1

theorem info_s : (Try.prog.info? 9).map (fun i => (i.zero, i.size, i.bytes)) = some (some (.string ⟨#[]⟩), 1, 16) := by kernel_rfl
theorem txt_one (hs : List (List Int)) : txt hs 1 = txt hs 0 ++ wordAt hs 0 := rfl
theorem txt_more (hs : List (List Int)) (k : Nat) (h : 0 < k) : txt hs (k + 1) = txt hs k ++ ⟨#[32]⟩ ++ wordAt hs k := by simp [txt, h]

theorem word_size (xs : List Int) : (word xs).size ≤ xs.length := by
  unfold word
  split
  · rw [strOfNums_size]; exact spell_len xs
  · exact Nat.zero_le _
theorem txt_size (hs : List (List Int)) : ∀ k, (txt hs k).size ≤ 9 * k
  | 0 => Nat.le_refl _
  | k + 1 => by
    have ih := txt_size hs k
    have h1 := word_size (hMean (nthH hs k))
    have h2 := hMean_le (nthH hs k)
    have h3 : (wordAt hs k).size ≤ 8 := by unfold wordAt; omega
    unfold txt
    split
    · rw [ByteArray.size_append, ByteArray.size_append]
      have : (⟨#[32]⟩ : ByteArray).size = 1 := rfl
      omega
    · rw [ByteArray.size_append]; omega

set_option maxHeartbeats 2000000 in
theorem sTextFromHoists_any (hs : List (List Int)) (A : Option Addr) (c : Nat) (w : World) (h : SlH w A hs) (rx : HB hs) (hn : hs.length ≤ 1048576) (hi : ∀ xs ∈ hs, xs.length ≤ 1048576) :
    Calls Try.prog 46 #[.slice A hs.length c] w fun e w' => e = .returned (.tuple #[.string (textS hs), .int .i64 (textC hs)]) ∧ Below w.heap.size w w' := by
  have HS := As.mk (show textS hs = if hoists hs then (if decide (hs.length ≤ 100) && wordsOk hs then txt hs hs.length else ⟨#[]⟩) else ⟨#[]⟩ from rfl)
  have HC := As.mk (show textC hs = if hoists hs then (if decide (hs.length ≤ 100) && wordsOk hs then 0 else 2) else 1 from rfl)
  have HI := As.mk hi
  obtain ⟨n, hm⟩ : ∃ n, hs.length = n := ⟨_, rfl⟩
  have HM := As.mk hm
  rw [hm] at hn ⊢
  clear hm hi
  go_enter Try.func46, Try.ntmps46
  go_wp2
  go_loopw [4] (fun i wr => ∃ k : Nat, k ≤ n ∧ i = .int .i64 k ∧ As (∀ j, j < k → hOk (nthH hs j) = true) ∧ Below w.heap.size w wr) (fun i _ => n - (intOf i).toNat)
  case atStart => exact ⟨0, by omega, rfl, ⟨fun j hj => by omega⟩, Below.refl _ _⟩
  case round =>
    obtain ⟨k, hk, rfl, H, hb⟩ := hrel
    by_cases hlt : k < n
    · have hlt' : (k : Int) < (n : Int) := by omega
      have hlx := As.mk (show k < hs.length by rw [HM.out]; exact hlt)
      obtain ⟨b, o, rfl, hr⟩ := (h.kept hb).2 (by rw [HM.out]; omega)
      obtain ⟨v, c0, A1, c1, rfl, S1⟩ := hr k hlx.out
      have key := sValidHoist_any (nthH hs k) A1 c1 wr S1 (rx _ (nthH_mem hs k hlx.out))
      clear hr S1
      cases hq : hOk (nthH hs k)
      · rw [hq] at key
        have hbad := hoists_bad k hlx.out hq
        clear hq
        go_wp2_with (fail)
        refine (key).mono ?_; rintro e w1 ⟨rfl, hb1⟩
        go_wp2_with (fail)
        go_ret2
        exact ⟨by rw [HS.out, HC.out, hbad]; rfl, bl_call hb hb1⟩
      · rw [hq] at key
        have HQ := As.mk hq
        clear hq
        go_wp2_with (fail)
        refine (key).mono ?_; rintro e w1 ⟨rfl, hb1⟩
        go_wp2_with (fail)
        go_roundw
        case rel => exact ⟨k + 1, by omega, by go_num, ⟨all_succ H.out HQ.out⟩, bl_call hb hb1⟩
        case measure => simp [intOf]; omega
    · obtain rfl : k = n := by omega
      have hgood := hoists_good (by rw [HM.out]; exact H.out)
      by_cases h100 : k ≤ 100
      · have h100' : ¬ (100 < (k : Int)) := by omega
        have H100 := As.mk h100
        have HG := As.mk hgood
        clear hgood h100
        go_wp2
        go_loopw [5, 6] (fun s i wr2 => ∃ m : Nat, m ≤ k ∧ s = .string (txt hs m) ∧ i = .int .i64 m ∧ As (∀ j, j < m → spellOk (hMean (nthH hs j)) = true) ∧ Below w.heap.size w wr2) (fun _ i _ => k - (intOf i).toNat)
        case atStart => exact ⟨0, by omega, rfl, rfl, ⟨fun j hj => by omega⟩, hb⟩
        case round =>
          obtain ⟨m, hmk, rfl, rfl, H2, hb2⟩ := hrel
          by_cases hlt2 : m < k
          · have hlt2' : (m : Int) < (k : Int) := by omega
            have hlx := As.mk (show m < hs.length by rw [HM.out]; exact hlt2)
            obtain ⟨b, o, rfl, hr⟩ := (h.kept hb2).2 (by rw [HM.out]; omega)
            obtain ⟨v, c0, A1, c1, rfl, S1⟩ := hr m hlx.out
            have hq := hoists_at HG.out m hlx.out
            have key := sMeaningOf_any (nthH hs m) A1 c1 wr S1 (rx _ (nthH_mem hs m hlx.out))
            have hle := hMean_le (nthH hs m)
            have key2 := fun W A c h => l03Read_any (hMean (nthH hs m)) A c W h (hMean_all hq) (by omega)
            have HW := As.mk (show wordAt hs m = word (hMean (nthH hs m)) from rfl)
            have hz1 : (txt hs m).size ≤ 900 := by have := txt_size hs m; have := H100.out; omega
            have hz2 : (word (hMean (nthH hs m))).size ≤ 8 := by have := word_size (hMean (nthH hs m)); omega
            have hz3 : (txt hs m ++ ⟨#[32]⟩).size ≤ 901 := by rw [ByteArray.size_append]; have : (⟨#[32]⟩ : ByteArray).size = 1 := rfl; omega
            rw [hq] at key
            clear hr S1 hq hle
            obtain ⟨x, hx⟩ : ∃ x, hMean (nthH hs m) = x := ⟨_, rfl⟩
            have HX := As.mk hx
            rw [hx] at key key2 HW hz2
            clear hx
            go_wp2_with (fail)
            refine key.mono ?_; rintro e w1 ⟨⟨v1, rfl, O1⟩, hb3⟩
            obtain ⟨B1, d1, rfl, S1⟩ := O1.sl
            have b3 := bl_call hb2 hb3
            go_wp2_with (fail)
            refine (key2 _ _ _ S1).mono ?_; rintro e w4 ⟨rfl, hb4⟩
            have b4 := bl_call b3 hb4
            cases hq : spellOk x
            · have hbad := wordsOk_bad m hlx.out (by rw [HX.out]; exact hq)
              go_wp2_with (fail)
              go_ret2
              exact ⟨by rw [HS.out, HC.out, HG.out, hbad, Bool.and_false]; rfl, b4⟩
            · have HQ := As.mk hq
              by_cases h0 : 0 < m
              · have h0' : (0 : Int) < (m : Int) := by omega
                have ht := As.mk (txt_more hs m h0)
                rw [HW.out] at ht
                clear h0
                go_wp2_with (fail)
                go_roundw
                case rel => exact ⟨m + 1, by omega, by rw [ht.out], by go_num, ⟨all_succ H2.out (by rw [HX.out]; exact HQ.out)⟩, b4⟩
                case measure => simp [intOf]; omega
              · obtain rfl : m = 0 := by omega
                have ht := As.mk (txt_one hs)
                rw [HW.out] at ht
                go_wp2_with (fail)
                go_roundw
                case rel => exact ⟨1, by omega, by rw [ht.out], by go_num, ⟨all_succ H2.out (by rw [HX.out]; exact HQ.out)⟩, b4⟩
                case measure => simp [intOf]; omega
          · obtain rfl : m = k := by omega
            have hw := wordsOk_good (hs := hs) (by rw [HM.out]; exact H2.out)
            go_wp2_with (fail)
            go_ret2
            exact ⟨by rw [HS.out, HC.out, HG.out, hw, HM.out, decide_eq_true H100.out]; rfl, hb2⟩
      · have h100' : (100 : Int) < (k : Int) := by omega
        go_wp2_with (fail)
        go_ret2
        exact ⟨by rw [HS.out, HC.out, hgood, HM.out, decide_eq_false h100]; rfl, hb⟩

theorem TextFromHoists1_any (xs : List Int) (v : Value) (w : World) (h : SlV w v xs) (rx : ∀ n ∈ xs, -128 ≤ n ∧ n ≤ 127) (hn : xs.length ≤ 1048576) :
    Calls Try.prog 64 #[v] w fun e w' => e = .returned (.bool (!hOk xs)) ∧ Below w.heap.size w w' := by
  obtain ⟨A, c, rfl, S⟩ := h
  have key := ValidHoist_any xs A c w S rx hn
  go_enter Try.func64, Try.ntmps64
  go_wp2_with (fail)
  refine (key).mono ?_; rintro e w1 ⟨rfl, hb⟩
  go_wp2_with (fail)
  go_ret
  exact ⟨rfl, hb⟩

set_option maxHeartbeats 2000000 in
theorem TextFromHoists_any (hs : List (List Int)) (A : Option Addr) (c : Nat) (w : World) (h : SlH w A hs) (rx : HB hs) (hn : hs.length ≤ 1048576) (hi : ∀ xs ∈ hs, xs.length ≤ 1048576) :
    Calls Try.prog 48 #[.slice A hs.length c] w fun e w' => e = .returned (.tuple #[.string (textS hs), .int .i64 (textC hs)]) ∧ Below w.heap.size w w' := by
  have HS := As.mk (show textS hs = if hoists hs then (if decide (hs.length ≤ 100) && wordsOk hs then txt hs hs.length else ⟨#[]⟩) else ⟨#[]⟩ from rfl)
  have HC := As.mk (show textC hs = if hoists hs then (if decide (hs.length ≤ 100) && wordsOk hs then 0 else 2) else 1 from rfl)
  have HI := As.mk hi
  obtain ⟨vs, hvs⟩ : ∃ vs : Nat → Value, ∀ b o, A = some ⟨b, o, none⟩ → ∀ j, j < hs.length → w.cell? ⟨b, o + j, none⟩ = some (vs j) ∧ SlV w (vs j) (nthH hs j) := by
    by_cases hp : 0 < hs.length
    · obtain ⟨b, o, rfl, hr⟩ := h.2 hp
      refine ⟨fun j => (w.cell? ⟨b, o + j, none⟩).getD undef, fun b' o' e j hj => ?_⟩
      simp only [Option.some.injEq, Addr.mk.injEq, and_true] at e
      obtain ⟨rfl, rfl⟩ := e
      obtain ⟨v, hc, hv⟩ := hr j hj
      simp only [hc, Option.getD_some]
      exact ⟨trivial, hv⟩
    · exact ⟨fun _ => undef, fun b o _ j hj => by omega⟩
  have key := ContainsFunc_h 64 #[] (enters Try.func64 (by kernel_rfl) rfl) vs hs.length (fun k => !hOk (nthH hs k)) A c w
    (fun W k hk hb => by
      obtain ⟨b, o, e, _⟩ := h.2 (by omega)
      exact TextFromHoists1_any (nthH hs k) (vs k) W ((hvs b o e k hk).2.kept hb) (rx _ (nthH_mem hs k hk)) (hi _ (nthH_mem hs k hk))) h.1
    (fun hp => by obtain ⟨b, o, e, _⟩ := h.2 hp; exact ⟨b, o, e, fun j hj => (hvs b o e j hj).1⟩)
  rw [any_hoists] at key
  clear hvs
  obtain ⟨n, hm⟩ : ∃ n, hs.length = n := ⟨_, rfl⟩
  have HM := As.mk hm
  rw [hm] at hn key ⊢
  clear hm hi
  cases hg : hoists hs
  · rw [hg] at key
    have HG := As.mk hg
    clear hg
    go_enter Try.func48, Try.ntmps48
    go_wp2_with (fail)
    refine (key).mono ?_; rintro e w1 ⟨rfl, hb1⟩
    go_wp2_with (fail)
    go_ret2
    exact ⟨by rw [HS.out, HC.out, HG.out]; rfl, hb1⟩
  · rw [hg] at key
    have HG := As.mk hg
    clear hg
    by_cases h100 : n ≤ 100
    · have h100' : ¬ (100 < (n : Int)) := by omega
      have H100 := As.mk h100
      go_enter Try.func48, Try.ntmps48
      go_wp2_with (fail)
      refine (key).mono ?_; rintro e w1 ⟨rfl, hb1⟩
      clear key
      have h1 := h.kept hb1
      go_wp2_with (fail)
      go_loopw [4, 21] (fun v i wr => ∃ m : Nat, m ≤ n ∧ i = .int .i64 m ∧ Own wr w1.heap.size 9 v ((wordsAt hs m).map Value.string) ∧ As (∀ j, j < m → spellOk (hMean (nthH hs j)) = true) ∧ Below w1.heap.size w1 wr) (fun _ i _ => n - (intOf i).toNat)
      case atStart => exact ⟨0, by omega, rfl, Own.lit w1 w1.heap.size 9 [] (Nat.le_refl _) (by simp), ⟨fun j hj => by omega⟩, bl_new (Below.refl _ _) _⟩
      case round =>
        obtain ⟨m, hmk, rfl, hO, H2, hb2⟩ := hrel
        by_cases hlt2 : m < n
        · have hlt2' : (m : Int) < (n : Int) := by omega
          have hlx := As.mk (show m < hs.length by rw [HM.out]; exact hlt2)
          obtain ⟨b, o, rfl, hr⟩ := (h1.kept hb2).2 (by rw [HM.out]; omega)
          obtain ⟨v, c0, A1, c1, rfl, S1⟩ := hr m hlx.out
          have hq := hoists_at HG.out m hlx.out
          have key := meaning_any (nthH hs m) A1 c1 wr S1 (rx _ (nthH_mem hs m hlx.out)) (HI.out _ (nthH_mem hs m hlx.out))
          have hle := hMean_le (nthH hs m)
          have key2 := fun W A c h => SpelledWord_any (hMean (nthH hs m)) A c W h (mean_bd hq) (by omega)
          have hsS : spelledS (hMean (nthH hs m)) = wordAt hs m := by unfold spelledS wordAt; rw [mean_mOk hq]; rfl
          have hsC : spelledC (hMean (nthH hs m)) = if spellOk (hMean (nthH hs m)) then 0 else 2 := by unfold spelledC; rw [mean_mOk hq]; rfl
          rw [hsS, hsC] at key2
          have HQ1 := As.mk hq
          clear hr S1 hq hle hsS hsC
          obtain ⟨y, hy⟩ : ∃ y, nthH hs m = y := ⟨_, rfl⟩
          have HY := As.mk hy
          rw [hy] at key key2 HQ1 c0
          clear hy
          have hwl := words_len hs m
          have hws := words_succ hs m
          obtain ⟨ww, hww⟩ : ∃ ww, wordAt hs m = ww := ⟨_, rfl⟩
          rw [hww] at key2 hws
          have HWS := As.mk hws
          clear hws hww
          go_wp2_with (fail)
          refine key.mono ?_; rintro e w3 ⟨⟨v1, rfl, O1⟩, hb3⟩
          obtain ⟨B1, d1, rfl, S1⟩ := (O1 HQ1.out).sl
          have b3 := bl_call hb2 hb3
          have hO3 := hO.kept hb3
          go_wp2_with (fail)
          refine (key2 _ _ _ S1).mono ?_; rintro e w4 ⟨rfl, hb4⟩
          have b4 := bl_call b3 hb4
          have hO4 := hO3.kept hb4
          clear key key2 O1 S1 hO hO3
          cases hq : spellOk (hMean y)
          · have hbad := wordsOk_bad m hlx.out (by rw [HY.out]; exact hq)
            simp only [Bool.false_eq_true, if_false]
            go_wp2_with (fail)
            go_ret2
            exact ⟨by rw [HS.out, HC.out, HG.out, hbad, Bool.and_false]; rfl, bl_call hb1 b4⟩
          · have HQ := As.mk hq
            simp only [if_true]
            go_wp2_with (at_builtin; refine app1 (w0 := w1) (w1.heap.size) rfl (.tmp 38) (.tmp 40) 75 9 (.string ⟨#[]⟩) 16 rfl Try.underlying75 info_s rfl (by omega) (u4) ((wordsAt hs m).map Value.string) (.string ww) rfl rfl rfl hO4 b4 b4.size (by rw [List.length_map, hwl]; omega) ?_)
            intro v5 w5 hO5 hb5 _ _
            go_wp2_with (fail)
            go_roundw
            case rel => exact ⟨m + 1, by omega, by go_num, by rw [HWS.out, List.map_append]; exact hO5, ⟨all_succ H2.out (by rw [HY.out]; exact HQ.out)⟩, hb5⟩
            case measure => simp [intOf]; omega
        · obtain rfl : m = n := by omega
          have hw := wordsOk_good (hs := hs) (by rw [HM.out]; exact H2.out)
          have hJ := txt_join hs m
          have hJ' : (⟨(Lib.join ((wordsAt hs m).map (·.data.toList)) [32]).toArray⟩ : ByteArray) = txt hs m := by rw [← hJ]
          have hsz := txt_size hs m
          have hlen : (Lib.join ((wordsAt hs m).map (·.data.toList)) [32]).length ≤ 140737488355328 := by
            rw [← hJ, Array.length_toList]
            have : (txt hs m).size = (txt hs m).data.size := rfl
            omega
          have hwl := words_len hs m
          have HWO := As.mk hw
          rcases hO.form with ⟨rfl, hnil⟩ | ⟨g, cp, rfl, hg, hgl, hrr, hfz, hb63, hcap⟩
          · have hm0 : m = 0 := by
              have := congrArg List.length hnil
              simpa [hwl] using this
            have ht0 : txt hs m = ⟨#[]⟩ := by rw [hm0]; rfl
            have HT := As.mk ht0
            clear hJ hJ' hsz hlen hw hnil ht0
            go_wp2_with (fail)
            refine (sh_strings_Join_none none 0 ⟨#[32]⟩ _).mono ?_; rintro e w5 ⟨rfl, rfl⟩
            go_wp2_with (fail)
            go_ret2
            exact ⟨by rw [HS.out, HC.out, HG.out, HWO.out, HM.out, decide_eq_true H100.out, ← HT.out]; rfl, bl_call hb1 hb2⟩
          · rw [List.length_map, hwl] at hcap ⊢
            have hcl : ∀ (j : Nat) x, (wordsAt hs m)[j]? = some x → wr.cell? ⟨g, 0 + j, none⟩ = some (.string x) := fun j x hx => hrr j _ (by rw [List.getElem?_map, hx]; rfl)
            have key := sh_strings_Join g 0 cp (wordsAt hs m) ⟨#[32]⟩ wr hcl hgl (by rw [hwl]; omega) (by rw [hwl]; exact hcap) hlen
            rw [show ((⟨#[32]⟩ : ByteArray).data.toList) = [32] from rfl, hJ', hwl] at key
            have HT := As.mk (show textS hs = txt hs m by rw [HS.out, HG.out, HWO.out, HM.out, decide_eq_true H100.out]; rfl)
            clear hJ hJ' hsz hlen hw hcl hrr hfz
            go_wp2_with (fail)
            refine key.mono ?_; rintro e w5 ⟨rfl, hb5⟩
            go_wp2_with (fail)
            go_ret2
            exact ⟨by rw [HT.out, HC.out, HG.out, HWO.out, HM.out, decide_eq_true H100.out]; rfl, bl_call hb1 (bl_call hb2 hb5)⟩
    · have h100' : (100 : Int) < (n : Int) := by omega
      go_enter Try.func48, Try.ntmps48
      go_wp2_with (fail)
      refine (key).mono ?_; rintro e w1 ⟨rfl, hb1⟩
      go_wp2_with (fail)
      go_ret2
      exact ⟨by rw [HS.out, HC.out, HG.out, HM.out, decide_eq_false h100]; rfl, hb1⟩
end Go.Proofs.Ytllplgjlpndpfaa
