/- Contracts: HoistText: both sides. -/
import Derived.Test.YtllplgjlpndpfaaDoorH5
import Derived.Test.YtllplgjlpndpfaaDoorDc
import Derived.Test.YtllplgjlpndpfaaDoorFi
import Derived.Test.YtllplgjlpndpfaaDoorJn
import Derived.Test.YtllplgjlpndpfaaDoorOn
import Derived.Test.YtllplgjlpndpfaaDoorLs
set_option linter.unusedVariables false
namespace Go.Proofs.YtllplgjlpndpfaaDoor
open Go.RowKit

theorem dig_lib (n : Nat) (h : n < 100) : (⟨(Lib.decDigits n).toArray⟩ : ByteArray) = dig n := by
  have key : ∀ m : Fin 100, (Lib.decDigits m.1).toArray = (dig m.1).data := by decide +kernel
  have := key ⟨n, h⟩
  simp only at this
  rw [this]
theorem decimal_any (n : Nat) (h : n < 100) (w : World) : Calls Tryd.prog 22 #[.int .i64 n] w fun e w' => e = .returned (.string (dig n)) ∧ w = w' := by
  have key := sh_strconv_FormatInt_10_small n h w
  rw [dig_lib n h] at key
  go_enter Tryd.func22, Tryd.ntmps22
  go_wp2_with (fail)
  refine key.mono ?_; rintro e w' ⟨rfl, rfl⟩
  go_wp2_with (fail)
  go_ret
  exact ⟨rfl, rfl⟩

/-- Texts, joined by blanks. -/
def joinK (p : Nat → ByteArray) : Nat → ByteArray
  | 0 => ⟨#[]⟩
  | k + 1 => (if 0 < k then joinK p k ++ ⟨#[32]⟩ else joinK p k) ++ p k
def rangeK (p : Nat → ByteArray) (k : Nat) : List ByteArray := (List.range k).map p
theorem rangeK_succ (p : Nat → ByteArray) (k : Nat) : rangeK p (k + 1) = rangeK p k ++ [p k] := by simp [rangeK, List.range_succ]
theorem rangeK_len (p : Nat → ByteArray) (k : Nat) : (rangeK p k).length = k := by simp [rangeK]
theorem join_snoc' (xs : List (List UInt8)) (y sep : List UInt8) (h : xs ≠ []) : Lib.join (xs ++ [y]) sep = Lib.join xs sep ++ sep ++ y := by
  cases xs with
  | nil => exact absurd rfl h
  | cons x r =>
    rw [List.cons_append, Lib.join_cons, Lib.join_cons]
    simp [Lib.joinTail, List.append_assoc]
theorem joinK_join (p : Nat → ByteArray) : ∀ k, (joinK p k).data.toList = Lib.join ((rangeK p k).map (·.data.toList)) [32]
  | 0 => rfl
  | k + 1 => by
    have ih := joinK_join p k
    rw [rangeK_succ, List.map_append, List.map_cons, List.map_nil]
    by_cases hk : 0 < k
    · rw [join_snoc' _ _ _ (by rw [← List.length_pos_iff, List.length_map, rangeK_len]; exact hk), ← ih]
      simp [joinK, hk]
    · obtain rfl : k = 0 := by omega
      simp [joinK, rangeK, Lib.join]
theorem joinK_size (p : Nat → ByteArray) (hp : ∀ k, (p k).size ≤ 3) : ∀ k, (joinK p k).size ≤ 4 * k
  | 0 => Nat.le_refl _
  | k + 1 => by
    have ih := joinK_size p hp k
    have h3 := hp k
    unfold joinK
    split
    · rw [ByteArray.size_append, ByteArray.size_append]
      have : (⟨#[32]⟩ : ByteArray).size = 1 := rfl
      omega
    · rw [ByteArray.size_append]; omega
theorem joinK_one (p : Nat → ByteArray) : joinK p 1 = ⟨#[]⟩ ++ p 0 := rfl
theorem joinK_more (p : Nat → ByteArray) (k : Nat) (h : 0 < k) : joinK p (k + 1) = joinK p k ++ ⟨#[32]⟩ ++ p k := by simp [joinK, h]

/-- The text of a number of a hoist. -/
def pieceS (n : Int) : ByteArray := if n = -10 then ⟨#[47]⟩ else if n < 0 then ⟨#[115]⟩ ++ dig (-n).toNat else dig n.toNat
theorem pieceS_size (n : Int) : (pieceS n).size ≤ 3 := by
  unfold pieceS
  split
  · exact (by decide : (⟨#[47]⟩ : ByteArray).size ≤ 3)
  · split
    · rw [ByteArray.size_append]
      have := dig_size (-n).toNat
      have : (⟨#[115]⟩ : ByteArray).size = 1 := rfl
      omega
    · have := dig_size n.toNat; omega
theorem piece_brk : pieceS (-10) = ⟨#[47]⟩ := rfl
theorem piece_sub (m : Nat) (h1 : 1 ≤ m) (h4 : m ≤ 4) : pieceS (-(m : Int)) = ⟨#[115]⟩ ++ dig m := by
  unfold pieceS; rw [if_neg (by omega), if_pos (by omega)]; congr 2; omega
theorem piece_kind (m : Nat) : pieceS (m : Int) = dig m := by
  unfold pieceS; rw [if_neg (by omega), if_neg (by omega)]; congr 1
theorem hOk_nums {xs : List Int} (h : hOk xs = true) (k : Nat) (hk : k < xs.length) : nth xs k = -10 ∨ (∃ m : Nat, 1 ≤ m ∧ m ≤ 4 ∧ nth xs k = -(m : Int)) ∨ (∃ m : Nat, m ≤ 39 ∧ nth xs k = (m : Int)) := by
  obtain ⟨g, e⟩ := hOk_read h
  cases e1 : hRead xs k with
  | none => rw [hRead_none e1 _ (by omega)] at e; cases e
  | some p =>
    obtain ⟨o, g1⟩ := p
    cases e2 : hStep o g1 (nth xs k) with
    | none => rw [hRead_none (k := k + 1) (by rw [hRead_succ e1, e2]) _ (by omega)] at e; cases e
    | some q =>
      by_cases h10 : nth xs k = -10
      · exact .inl h10
      · by_cases hkd : 0 ≤ nth xs k ∧ nth xs k ≤ 39
        · exact .inr (.inr ⟨(nth xs k).toNat, by omega, by omega⟩)
        · by_cases hs : -4 ≤ nth xs k ∧ nth xs k ≤ -1
          · exact .inr (.inl ⟨(-(nth xs k)).toNat, by omega, by omega, by omega⟩)
          · rw [hStep_none h10 hkd (by omega)] at e2; cases e2
def hoistP (xs : List Int) (k : Nat) : ByteArray := pieceS (nth xs k)
def hoistS (xs : List Int) : ByteArray := if hOk xs then joinK (hoistP xs) xs.length else ⟨#[]⟩

set_option maxHeartbeats 2000000 in
theorem l02Text_any (xs : List Int) (A : Option Addr) (c : Nat) (w : World) (h : Sl .i8 w A xs) (hok : hOk xs = true) :
    Calls Tryd.prog 20 #[.slice A xs.length c] w fun e w' => e = .returned (.string (joinK (hoistP xs) xs.length)) ∧ Below w.heap.size w w' := by
  have HO := As.mk hok
  have hn8 := (hOk_len hok).2
  obtain ⟨n, hm⟩ : ∃ n, xs.length = n := ⟨_, rfl⟩
  have HM := As.mk hm
  rw [hm] at hn8 ⊢
  clear hm hok
  go_enter Tryd.func20, Tryd.ntmps20
  go_wp2
  go_loopw [3, 4] (fun s i wr => ∃ k : Nat, k ≤ n ∧ i = .int .i64 k ∧ s = .string (joinK (hoistP xs) k) ∧ Below w.heap.size w wr) (fun _ i _ => n - (intOf i).toNat)
  case atStart => exact ⟨0, by omega, rfl, rfl, Below.refl _ _⟩
  case round =>
    obtain ⟨k, hk, rfl, rfl, hb⟩ := hrel
    by_cases hlt : k < n
    · have hlt' : (k : Int) < (n : Int) := by omega
      have hlx := As.mk (show k < xs.length by rw [HM.out]; exact hlt)
      obtain ⟨b, off, rfl, hr⟩ := h.2 (by rw [HM.out]; omega)
      have c0 : wr.cell? ⟨b, off + k, none⟩ = some (.int .i8 (nth xs k)) := by
        have h0 := hr k _ (i8s_get xs k hlx.out)
        rw [hb.cell (World.block_lt_of_cell? w _ h0)]; exact h0
      -- the text so far, with a blank
      obtain ⟨s, hs, hsz, hblank⟩ : ∃ s : ByteArray, joinK (hoistP xs) (k + 1) = s ++ pieceS (nth xs k) ∧ s.size ≤ 40 ∧ ((k = 0 ∧ s = joinK (hoistP xs) k) ∨ (0 < k ∧ s = joinK (hoistP xs) k ++ ⟨#[32]⟩)) := by
        have hz := joinK_size (hoistP xs) (fun j => pieceS_size _) k
        by_cases h0 : 0 < k
        · refine ⟨joinK (hoistP xs) k ++ ⟨#[32]⟩, joinK_more _ k h0, ?_, .inr ⟨h0, rfl⟩⟩
          rw [ByteArray.size_append]
          have : (⟨#[32]⟩ : ByteArray).size = 1 := rfl
          omega
        · obtain rfl : k = 0 := by omega
          exact ⟨_, joinK_one _, by decide, .inl ⟨rfl, rfl⟩⟩
      have hz := joinK_size (hoistP xs) (fun j => pieceS_size _) k
      have HS := As.mk hs
      have hnum := hOk_nums HO.out k hlx.out
      generalize nth xs k = x at *
      generalize hJ : joinK (hoistP xs) k = J at *
      have hJz : J.size ≤ 32 := by omega
      clear hs hz hJ
      rcases hnum with rfl | ⟨m, m1, m4, rfl⟩ | ⟨m, m39, rfl⟩
      · rw [piece_brk] at HS
        rcases hblank with ⟨rfl, rfl⟩ | ⟨h0, rfl⟩
        · rw [Nat.add_zero] at c0
          go_wp2_with (fail)
          go_roundw
          case rel => exact ⟨1, by omega, by go_num, by rw [HS.out], hb⟩
          case measure => simp [intOf]; omega
        · have h0' : (0 : Int) < (k : Int) := by omega
          clear h0
          go_wp2_with (fail)
          go_roundw
          case rel => exact ⟨k + 1, by omega, by go_num, by rw [HS.out], hb⟩
          case measure => simp [intOf]; omega
      · rw [piece_sub m m1 m4] at HS
        have kd := Decimal_any m (by omega) wr
        have hdz := dig_size m
        have e1 : ((-(m : Int)) == -10) = false := by rw [beq_eq_false_iff_ne]; omega
        have e2 : (-(m : Int)) < 0 := by omega
        have hsz2 : (⟨#[115]⟩ ++ dig m).size ≤ 3 := by
          rw [ByteArray.size_append]
          have : (⟨#[115]⟩ : ByteArray).size = 1 := rfl
          omega
        generalize dig m = d at *
        rcases hblank with ⟨rfl, rfl⟩ | ⟨h0, rfl⟩
        · rw [Nat.add_zero] at c0
          go_wp2_with (fail)
          refine (kd).mono ?_; rintro e w1 ⟨rfl, hb1⟩
          go_wp2_with (fail)
          go_roundw
          case rel => exact ⟨1, by omega, by go_num, by rw [HS.out], bl_call hb hb1⟩
          case measure => simp [intOf]; omega
        · have h0' : (0 : Int) < (k : Int) := by omega
          clear h0
          go_wp2_with (fail)
          refine (kd).mono ?_; rintro e w1 ⟨rfl, hb1⟩
          go_wp2_with (fail)
          go_roundw
          case rel => exact ⟨k + 1, by omega, by go_num, by rw [HS.out], bl_call hb hb1⟩
          case measure => simp [intOf]; omega
      · rw [piece_kind m] at HS
        have kd := Decimal_any m (by omega) wr
        have hdz := dig_size m
        have e1 : ((m : Int) == -10) = false := by rw [beq_eq_false_iff_ne]; omega
        have e2 : ¬ ((m : Int) < 0) := by omega
        generalize dig m = d at *
        rcases hblank with ⟨rfl, rfl⟩ | ⟨h0, rfl⟩
        · rw [Nat.add_zero] at c0
          go_wp2_with (fail)
          refine (kd).mono ?_; rintro e w1 ⟨rfl, hb1⟩
          go_wp2_with (fail)
          go_roundw
          case rel => exact ⟨1, by omega, by go_num, by rw [HS.out], bl_call hb hb1⟩
          case measure => simp [intOf]; omega
        · have h0' : (0 : Int) < (k : Int) := by omega
          clear h0
          go_wp2_with (fail)
          refine (kd).mono ?_; rintro e w1 ⟨rfl, hb1⟩
          go_wp2_with (fail)
          go_roundw
          case rel => exact ⟨k + 1, by omega, by go_num, by rw [HS.out], bl_call hb hb1⟩
          case measure => simp [intOf]; omega
    · obtain rfl : k = n := by omega
      go_wp2_with (fail)
      go_ret
      exact ⟨rfl, hb⟩

set_option maxHeartbeats 400000 in
theorem sHoistText_any (xs : List Int) (A : Option Addr) (c : Nat) (w : World) (h : Sl .i8 w A xs) (rx : ∀ n ∈ xs, -128 ≤ n ∧ n ≤ 127) :
    Calls Tryd.prog 10 #[.slice A xs.length c] w fun e w' => e = .returned (.string (hoistS xs)) ∧ Below w.heap.size w w' := by
  have key := l02Ok_any xs A c w h rx
  have HS := As.mk (show hoistS xs = if hOk xs then joinK (hoistP xs) xs.length else ⟨#[]⟩ from rfl)
  cases hk : hOk xs
  · go_enter Tryd.func10, Tryd.ntmps10
    go_wp2_with (fail)
    refine key.mono ?_; rintro e w1 ⟨rfl, hb⟩
    rw [hk]
    go_wp2_with (fail)
    go_ret
    exact ⟨ret_s (by rw [HS.out, hk]; rfl), hb⟩
  · have key2 := fun W h => l02Text_any xs A c W h hk
    go_enter Tryd.func10, Tryd.ntmps10
    go_wp2_with (fail)
    refine key.mono ?_; rintro e w1 ⟨rfl, hb⟩
    rw [hk]
    go_wp2_with (fail)
    refine (key2 _ (h.kept hb)).mono ?_; rintro e w2 ⟨rfl, hb2⟩
    go_wp2_with (fail)
    go_ret
    exact ⟨ret_s (by rw [HS.out, hk]; rfl), bl_call hb hb2⟩

set_option maxRecDepth 100000 in
set_option maxHeartbeats 2000000 in
theorem HoistText_any (xs : List Int) (A : Option Addr) (c : Nat) (w : World) (h : Sl .i8 w A xs) (rx : ∀ n ∈ xs, -128 ≤ n ∧ n ≤ 127) (hn : xs.length ≤ 1048576) :
    Calls Tryd.prog 12 #[.slice A xs.length c] w fun e w' => e = .returned (.string (hoistS xs)) ∧ Below w.heap.size w w' := by
  have key := ValidHoist_any xs A c w h rx hn
  have HS := As.mk (show hoistS xs = if hOk xs then joinK (hoistP xs) xs.length else ⟨#[]⟩ from rfl)
  cases hk : hOk xs
  · go_enter Tryd.func12, Tryd.ntmps12
    go_wp2_with (fail)
    refine key.mono ?_; rintro e w1 ⟨rfl, hb⟩
    rw [hk]
    go_wp2_with (fail)
    go_ret
    exact ⟨ret_s (by rw [HS.out, hk]; rfl), hb⟩
  · have HO := As.mk hk
    have hn8 := (hOk_len hk).2
    obtain ⟨n, hm⟩ : ∃ n, xs.length = n := ⟨_, rfl⟩
    have HM := As.mk hm
    rw [hm] at hn8 key ⊢
    clear hm hn
    go_enter Tryd.func12, Tryd.ntmps12
    go_wp2_with (fail)
    refine key.mono ?_; rintro e w1 ⟨rfl, hb1⟩
    rw [hk]
    clear hk
    have h1 := h.kept hb1
    go_wp2_with (fail)
    go_loopw [3, 12] (fun v i wr => ∃ k : Nat, k ≤ n ∧ i = .int .i64 k ∧ Own wr w1.heap.size 9 v ((rangeK (hoistP xs) k).map Value.string) ∧ Below w1.heap.size w1 wr) (fun _ i _ => n - (intOf i).toNat)
    case atStart => exact ⟨0, by omega, rfl, Own.lit w1 w1.heap.size 9 [] (Nat.le_refl _) (by simp), bl_new (Below.refl _ _) _⟩
    case round =>
      obtain ⟨k, hk, rfl, hO, hb⟩ := hrel
      have hwl := rangeK_len (hoistP xs) k
      by_cases hlt : k < n
      · have hlt' : (k : Int) < (n : Int) := by omega
        have hlx := As.mk (show k < xs.length by rw [HM.out]; exact hlt)
        obtain ⟨b, off, rfl, hr⟩ := h1.2 (by rw [HM.out]; omega)
        have c0 : wr.cell? ⟨b, off + k, none⟩ = some (.int .i8 (nth xs k)) := by
          have h0 := hr k _ (i8s_get xs k hlx.out)
          rw [hb.cell (World.block_lt_of_cell? w1 _ h0)]; exact h0
        have HWS := As.mk (show rangeK (hoistP xs) (k + 1) = rangeK (hoistP xs) k ++ [pieceS (nth xs k)] from rangeK_succ _ _)
        have hnum := hOk_nums HO.out k hlx.out
        generalize nth xs k = x at *
        rcases hnum with rfl | ⟨m, m1, m4, rfl⟩ | ⟨m, m39, rfl⟩
        · rw [piece_brk] at HWS
          go_wp2_with (at_builtin; refine app1 (w0 := w1) (w1.heap.size) rfl (.tmp 25) (.tmp 26) 40 9 (.string ⟨#[]⟩) 16 rfl Tryd.underlying40 info_s rfl (by omega) (u3) ((rangeK (hoistP xs) k).map Value.string) (.string ⟨#[47]⟩) rfl rfl rfl hO hb hb.size (by rw [List.length_map, hwl]; omega) ?_)
          intro v2 w2 hO2 hb2 _ _
          go_wp2_with (fail)
          go_roundw
          case rel => exact ⟨k + 1, by omega, by go_num, by rw [HWS.out, List.map_append]; exact hO2, hb2⟩
          case measure => simp [intOf]; omega
        · rw [piece_sub m m1 m4] at HWS
          have kd := fun W => decimal_any m (by omega) W
          have hdz := dig_size m
          have e1 : ((-(m : Int)) == -10) = false := by rw [beq_eq_false_iff_ne]; omega
          have e2 : (-(m : Int)) < 0 := by omega
          generalize dig m = d at *
          go_wp2_with (first | (go_at_call 22; refine (kd _).mono ?_; rintro e w' ⟨rfl, rfl⟩) | (at_builtin; refine app1 (w0 := w1) (w1.heap.size) rfl (.tmp 31) (.tmp 37) 40 9 (.string ⟨#[]⟩) 16 rfl Tryd.underlying40 info_s rfl (by omega) u3 ((rangeK (hoistP xs) k).map Value.string) (.string ((⟨#[115]⟩ : ByteArray) ++ d)) rfl rfl rfl hO hb hb.size (by rw [List.length_map, hwl]; omega) ?_))
          intro v2 w2 hO2 hb2 _ _
          go_wp2_with (fail)
          go_roundw
          case rel => exact ⟨k + 1, by omega, by go_num, by rw [HWS.out, List.map_append]; exact hO2, hb2⟩
          case measure => simp [intOf]; omega
        · rw [piece_kind m] at HWS
          have kd := fun W => decimal_any m (by omega) W
          have e1 : ((m : Int) == -10) = false := by rw [beq_eq_false_iff_ne]; omega
          have e2 : ¬ ((m : Int) < 0) := by omega
          generalize dig m = d at *
          go_wp2_with (first | (go_at_call 22; refine (kd _).mono ?_; rintro e w' ⟨rfl, rfl⟩) | (at_builtin; refine app1 (w0 := w1) (w1.heap.size) rfl (.tmp 16) (.tmp 20) 40 9 (.string ⟨#[]⟩) 16 rfl Tryd.underlying40 info_s rfl (by omega) u3 ((rangeK (hoistP xs) k).map Value.string) (.string d) rfl rfl rfl hO hb hb.size (by rw [List.length_map, hwl]; omega) ?_))
          intro v2 w2 hO2 hb2 _ _
          go_wp2_with (fail)
          go_roundw
          case rel => exact ⟨k + 1, by omega, by go_num, by rw [HWS.out, List.map_append]; exact hO2, hb2⟩
          case measure => simp [intOf]; omega
      · obtain rfl : k = n := by omega
        have hJ := joinK_join (hoistP xs) k
        have hJ' : (⟨(Lib.join ((rangeK (hoistP xs) k).map (·.data.toList)) [32]).toArray⟩ : ByteArray) = joinK (hoistP xs) k := by rw [← hJ]
        have hsz := joinK_size (hoistP xs) (fun j => pieceS_size _) k
        have hlen : (Lib.join ((rangeK (hoistP xs) k).map (·.data.toList)) [32]).length ≤ 140737488355328 := by
          rw [← hJ, Array.length_toList]
          have : (joinK (hoistP xs) k).size = (joinK (hoistP xs) k).data.size := rfl
          omega
        have HT := As.mk (show hoistS xs = joinK (hoistP xs) k by rw [HS.out, HO.out, HM.out]; rfl)
        rcases hO.form with ⟨rfl, hnil⟩ | ⟨g, cp, rfl, hg, hgl, hrr, hfz, hb63, hcap⟩
        · have hm0 : k = 0 := by
            have := congrArg List.length hnil
            simpa [hwl] using this
          have := hOk_len HO.out
          have := HM.out
          omega
        · rw [List.length_map, hwl] at hcap ⊢
          have hcl : ∀ (j : Nat) x, (rangeK (hoistP xs) k)[j]? = some x → wr.cell? ⟨g, 0 + j, none⟩ = some (.string x) := fun j x hx => hrr j _ (by rw [List.getElem?_map, hx]; rfl)
          have key := sh_strings_Join g 0 cp (rangeK (hoistP xs) k) ⟨#[32]⟩ wr hcl hgl (by rw [hwl]; omega) (by rw [hwl]; exact hcap) hlen
          rw [show ((⟨#[32]⟩ : ByteArray).data.toList) = [32] from rfl, hJ', hwl] at key
          clear hJ hJ' hsz hlen hcl hrr hfz
          go_wp2_with (fail)
          refine key.mono ?_; rintro e w5 ⟨rfl, hb5⟩
          go_wp2_with (fail)
          go_ret
          exact ⟨ret_s HT.out.symm, bl_call hb1 (bl_call hb hb5)⟩
end Go.Proofs.YtllplgjlpndpfaaDoor
