/- Contracts: MeaningIf: both sides. -/
import Derived.Test.YtllplgjlpndpfaaH5
import Derived.Test.YtllplgjlpndpfaaOn
import Derived.Test.YtllplgjlpndpfaaLs
import Derived.Test.YtllplgjlpndpfaaF7
set_option linter.unusedVariables false
namespace Go.Proofs.Ytllplgjlpndpfaa
open Go.RowKit

set_option maxRecDepth 100000 in
set_option maxHeartbeats 400000 in
theorem CloneH_any (xs : List Int) (b o c : Nat) (w : World) (hr : w.rangeAt b o (i8s xs)) (hn : xs.length ≤ 1048576) :
    Calls Try.prog 72 #[.slice (some ⟨b, o, none⟩) xs.length c] w fun e w' => (∃ v, e = .returned v ∧ Own w' w.heap.size 62 v (i8s xs)) ∧ Below w.heap.size w w' := by
  have hO := Own.lit w w.heap.size 62 [] (Nat.le_refl _) (by simp)
  have hb := bl_new (Below.refl _ w) (.cells #[] 62)
  have hr' : (w.alloc (.cells #[] 62)).rangeAt b o (i8s xs) := range_below hr hb
  have he : ∀ W : World, (binOp .eql 24 (.slice (some ⟨b, o, none⟩) xs.length c) (.slice none 0 0)).run Try.prog W = .ok (.bool false) W := fun _ => rfl
  go_enter Try.func72, Try.ntmps72
  go_wp2_with (at_builtin; refine appN (w0 := w) (w.heap.size) rfl (.tmp 5) (.tmp 6) 24 62 (.int .i8 0) 1 rfl Try.underlying24 info_i8 rfl (by omega) (.slice (some ⟨w.heap.size, 0, none⟩) 0 0) ([]) (i8s xs) b o c xs.length rfl rfl (i8s_length _) (i8s_one _) hO hr' hb hb.size (by simp; omega) ?_)
  intro v1 w1 hO1 hb1 _ _
  go_wp2_with (fail)
  go_ret
  exact ⟨⟨_, rfl, hO1⟩, hb1⟩

set_option maxHeartbeats 400000 in
theorem changed_any (xs : List Int) (i : Nat) (x : Int) (b o c : Nat) (w : World) (hr : w.rangeAt b o (i8s xs)) (hn : xs.length ≤ 1048576) (hi : i < xs.length) (hx : inR x 0 39 = true) :
    Calls Try.prog 61 #[.slice (some ⟨b, o, none⟩) xs.length c, .int .i64 i, .int .i64 x] w fun e w' => (∃ v, e = .returned v ∧ Own w' w.heap.size 62 v (i8s (xs.set i x))) ∧ Below w.heap.size w w' := by
  have x1 := ((inR_iff _ _ _).1 hx).1
  have x2 := ((inR_iff _ _ _).1 hx).2
  have i1 : (i : Int) < (xs.length : Int) := by omega
  have hlen := i8s_length xs
  go_enter Try.func61, Try.ntmps61
  go_wp2_with (fail)
  refine (CloneH_any xs b o c _ hr hn).mono ?_; rintro e w1 ⟨⟨v, rfl, hO⟩, hb⟩
  obtain ⟨A1, c1, rfl, S1⟩ := hO.sl
  obtain ⟨g, rfl⟩ := hO.addr (by omega)
  obtain ⟨u0, c0⟩ := hO.someAt i (by omega)
  have f0 := hO.frozenAt i
  have hS := hO.set hlen.symm i (.int .i8 x)
  rw [i8s_set] at hS
  have hg := hO.ge g rfl
  have hb' := hb.setCell (p := ⟨g, i, none⟩) hg (.int .i8 x)
  clear hlen
  go_wp2_with (fail)
  go_ret
  exact ⟨⟨_, rfl, hS⟩, hb'⟩

/-- The code of a hoist, a place with a flag, and a kind; what would be read. -/
def placeC (xs : List Int) (i x : Int) : Int := if hOk xs then (if inR i 0 ((xs.length : Int) - 1) && inR x 0 39 then (if decide (0 ≤ nth xs i.toNat) then 0 else 4) else 2) else 1
def ifL (xs : List Int) (i x : Int) : List Int := if placeC xs i x = 0 then hMean (xs.set i.toNat x) else []
theorem place_zero {xs : List Int} {i x : Int} (h : placeC xs i x = 0) : hOk xs = true ∧ inR i 0 ((xs.length : Int) - 1) = true ∧ inR x 0 39 = true ∧ 0 ≤ nth xs i.toNat := by
  unfold placeC at h
  split at h
  · rename_i h1
    split at h
    · rename_i h2
      simp only [Bool.and_eq_true] at h2
      split at h
      · rename_i h3
        exact ⟨h1, h2.1, h2.2, by simpa using h3⟩
      · omega
    · omega
  · omega
theorem place_ok {xs : List Int} {i x : Int} (h : placeC xs i x = 0) : hOk (xs.set i.toNat x) = true := by
  obtain ⟨h1, h2, h3, h4⟩ := place_zero h
  rw [inR_iff] at h2 h3
  exact hOk_changed h1 _ (by omega) h4 _ h3
theorem ifL_bad {xs : List Int} {i x : Int} (h : ¬ placeC xs i x = 0) : ifL xs i x = [] := by unfold ifL; rw [if_neg h]
theorem ifL_ok {xs : List Int} {i x : Int} (h : placeC xs i x = 0) : ifL xs i x = hMean (xs.set i.toNat x) := by unfold ifL; rw [if_pos h]
theorem ifL_le (xs : List Int) (i x : Int) : (ifL xs i x).length ≤ 8 := by
  unfold ifL; split
  · exact hMean_le _
  · simp
theorem ifL_len {xs : List Int} {i x : Int} (h : placeC xs i x = 0) : (ifL xs i x).length = xs.length := by
  rw [ifL_ok h, hMean_length (place_ok h), List.length_set]
theorem set_bd {xs : List Int} {i : Nat} {x : Int} (rx : ∀ n ∈ xs, -128 ≤ n ∧ n ≤ 127) (hx : inR x 0 39 = true) : ∀ n ∈ xs.set i x, -128 ≤ n ∧ n ≤ 127 := by
  intro n hn
  rw [inR_iff] at hx
  rcases List.mem_or_eq_of_mem_set hn with h | rfl
  · exact rx n h
  · omega

set_option maxHeartbeats 1000000 in
theorem placeCode_any (xs : List Int) (i x : Int) (ri : -9223372036854775808 ≤ i ∧ i ≤ 9223372036854775807) (A : Option Addr) (c : Nat) (w : World) (h : Sl .i8 w A xs) (rx : ∀ n ∈ xs, -128 ≤ n ∧ n ≤ 127) (hn : xs.length ≤ 1048576) :
    Calls Try.prog 60 #[.slice A xs.length c, .int .i64 i, .int .i64 x] w fun e w' => e = .returned (.int .i64 (placeC xs i x)) ∧ Below w.heap.size w w' := by
  have key := ValidHoist_any xs A c w h rx hn
  have hC := As.mk (show placeC xs i x = if hOk xs then (if inR i 0 ((xs.length : Int) - 1) && inR x 0 39 then (if decide (0 ≤ nth xs i.toNat) then 0 else 4) else 2) else 1 from rfl)
  cases hk : hOk xs
  · go_enter Try.func60, Try.ntmps60
    go_wp2_with (fail)
    refine key.mono ?_; rintro e w1 ⟨rfl, hb⟩
    rw [hk]
    go_wp2_with (fail)
    go_ret
    exact ⟨ret_n (by rw [hC.out, hk]; rfl), hb⟩
  · have hpos := hOk_len hk
    cases h1 : inR i 0 ((xs.length : Int) - 1)
    · go_enter Try.func60, Try.ntmps60
      go_wp2_with (fail)
      refine key.mono ?_; rintro e w1 ⟨rfl, hb⟩
      rw [hk]
      go_wp2_with (first | (go_at_call 66; refine (within_any _ _ _ _).mono ?_; rintro e w' ⟨rfl, rfl⟩) | (go_at_call 68; refine (size8_any _ _ _ _).mono ?_; rintro e w' ⟨rfl, rfl⟩))
      go_ret
      exact ⟨ret_n (by rw [hC.out, hk, h1]; rfl), hb⟩
    · cases h2 : inR x 0 39
      · go_enter Try.func60, Try.ntmps60
        go_wp2_with (fail)
        refine key.mono ?_; rintro e w1 ⟨rfl, hb⟩
        rw [hk]
        go_wp2_with (first | (go_at_call 66; refine (within_any _ _ _ _).mono ?_; rintro e w' ⟨rfl, rfl⟩) | (go_at_call 68; refine (size8_any _ _ _ _).mono ?_; rintro e w' ⟨rfl, rfl⟩))
        go_ret
        exact ⟨ret_n (by rw [hC.out, hk, h1, h2]; rfl), hb⟩
      · have h1' := (inR_iff _ _ _).1 h1
        have i1 := h1'.1
        have i2 : i < (xs.length : Int) := by omega
        obtain ⟨b, off, rfl, hr⟩ := h.2 hpos.1
        have hrk := fun {w1 : World} (hb : Below w.heap.size w w1) => range_below hr hb
        clear h1'
        cases h3 : decide (0 ≤ nth xs i.toNat)
        all_goals
          have h3' := h3
          simp only [decide_eq_true_eq, decide_eq_false_iff_not] at h3'
          go_enter Try.func60, Try.ntmps60
          go_wp2_with (fail)
          refine key.mono ?_; rintro e w1 ⟨rfl, hb⟩
          rw [hk]
          have c0 : w1.cell? ⟨b, off + i.toNat, none⟩ = some (.int .i8 (nth xs i.toNat)) := hrk hb _ _ (i8s_get xs _ (by omega))
          go_wp2_with (first | (go_at_call 66; refine (within_any _ _ _ _).mono ?_; rintro e w' ⟨rfl, rfl⟩) | (go_at_call 68; refine (size8_any _ _ _ _).mono ?_; rintro e w' ⟨rfl, rfl⟩) | (go_at_call 71; refine (unless_any _ _ _).mono ?_; rintro e w' ⟨rfl, rfl⟩))
          go_ret
          exact ⟨ret_n (by rw [hC.out, hk, h1, h2, h3]; rfl), hb⟩

set_option maxHeartbeats 1000000 in
theorem MeaningIf_any (xs : List Int) (i x : Int) (ri : -9223372036854775808 ≤ i ∧ i ≤ 9223372036854775807) (A : Option Addr) (c : Nat) (w : World) (h : Sl .i8 w A xs) (rx : ∀ n ∈ xs, -128 ≤ n ∧ n ≤ 127) (hn : xs.length ≤ 1048576) :
    Calls Try.prog 34 #[.slice A xs.length c, .int .i64 i, .int .i64 x] w fun e w' => Gave 62 (i8s (ifL xs i x)) (placeC xs i x) w.heap.size e w' ∧ Below w.heap.size w w' := by
  have key := placeCode_any xs i x ri A c w h rx hn
  by_cases h0 : placeC xs i x = 0
  · have hz := place_zero h0
    have hi := (inR_iff _ _ _).1 hz.2.1
    have hpos := hOk_len hz.1
    obtain ⟨q, rfl⟩ : ∃ q : Nat, i = (q : Int) := ⟨i.toNat, by omega⟩
    have hmo := fun W A c h => MeaningOf_any (xs.set q x) A c W h (set_bd rx hz.2.2.1) (by rw [List.length_set]; exact hn)
    have hok := place_ok h0
    rw [Int.toNat_natCast] at hok
    rw [hok] at hmo
    have hL := As.mk (ifL_ok h0)
    rw [Int.toNat_natCast] at hL
    obtain ⟨b, off, rfl, hr⟩ := h.2 hpos.1
    have hch := fun W hr => changed_any xs q x b off c W hr hn (by omega) hz.2.2.1
    rw [h0] at key ⊢
    clear hz hi hok
    go_enter Try.func34, Try.ntmps34
    go_wp2_with (fail)
    refine key.mono ?_; rintro e w1 ⟨rfl, hb⟩
    go_wp2_with (fail)
    refine (hch _ (range_below hr hb)).mono ?_; rintro e w2 ⟨⟨v, rfl, hO⟩, hb2⟩
    obtain ⟨A2, c2, rfl, S2⟩ := hO.sl
    have b2 := bl_call hb hb2
    rw [List.length_set] at hmo ⊢
    go_wp2_with (fail)
    refine (hmo _ _ _ S2).mono ?_; rintro e w3 ⟨⟨v3, rfl, hO3⟩, hb3⟩
    go_wp2_with (fail)
    go_ret2
    exact ⟨⟨_, rfl, by rw [hL.out]; exact hO3.lower b2.size⟩, bl_call b2 hb3⟩
  · have hne : (placeC xs i x != 0) = true := by rw [bne_iff_ne]; exact h0
    have hL := As.mk (ifL_bad h0)
    clear h0
    go_enter Try.func34, Try.ntmps34
    go_wp2_with (fail)
    refine key.mono ?_; rintro e w1 ⟨rfl, hb⟩
    go_wp2_with (fail)
    go_ret2
    exact ⟨⟨_, rfl, by rw [hL.out]; exact Own.nil _ _ _⟩, hb⟩

set_option maxHeartbeats 1000000 in
theorem l02If_any (xs : List Int) (i x : Int) (ri : -9223372036854775808 ≤ i ∧ i ≤ 9223372036854775807) (A : Option Addr) (c : Nat) (w : World) (h : Sl .i8 w A xs) (rx : ∀ n ∈ xs, -128 ≤ n ∧ n ≤ 127) (hn : xs.length ≤ 1048576) :
    Calls Try.prog 59 #[.slice A xs.length c, .int .i64 i, .int .i64 x] w fun e w' => Gave 62 (i8s (ifL xs i x)) (placeC xs i x) w.heap.size e w' ∧ Below w.heap.size w w' := by
  have key := l02Ok_any xs A c w h rx
  have hC := show placeC xs i x = if hOk xs then (if inR i 0 ((xs.length : Int) - 1) && inR x 0 39 then (if decide (0 ≤ nth xs i.toNat) then 0 else 4) else 2) else 1 from rfl
  have hbad : ¬ placeC xs i x = 0 → ∀ (W : World), w.heap.size ≤ W.heap.size → Own (W.alloc (.cells #[] 62)) w.heap.size 62 (.slice (some ⟨W.heap.size, 0, none⟩) 0 0) (i8s (ifL xs i x)) := fun h0 W hW => by
    rw [ifL_bad h0]; exact Own.lit W w.heap.size 62 [] hW (by simp)
  cases hk : hOk xs
  · rw [hk] at hC
    have hp : placeC xs i x = 1 := hC
    have hO := fun W hW => hbad (by rw [hp]; omega) W hW
    rw [hp]
    clear hC hbad
    go_enter Try.func59, Try.ntmps59
    go_wp2_with (fail)
    refine key.mono ?_; rintro e w1 ⟨rfl, hb⟩
    rw [hk]
    go_wp2_with (fail)
    go_ret2
    exact ⟨⟨_, rfl, hO w1 hb.size⟩, bl_new hb _⟩
  · have hpos := hOk_len hk
    rw [hk] at hC
    cases h1 : inR i 0 ((xs.length : Int) - 1)
    · rw [h1] at hC
      have hp : placeC xs i x = 2 := hC
      have hO := fun W hW => hbad (by rw [hp]; omega) W hW
      rw [hp]
      clear hC hbad
      go_enter Try.func59, Try.ntmps59
      go_wp2_with (fail)
      refine key.mono ?_; rintro e w1 ⟨rfl, hb⟩
      rw [hk]
      go_wp2_with (go_at_call 70; refine (l00In_any _ _ _ _).mono ?_; rintro e w' ⟨rfl, rfl⟩)
      go_ret2
      exact ⟨⟨_, rfl, hO w1 hb.size⟩, bl_new hb _⟩
    · cases h2 : inR x 0 39
      · rw [h1, h2] at hC
        have hp : placeC xs i x = 2 := hC
        have hO := fun W hW => hbad (by rw [hp]; omega) W hW
        rw [hp]
        clear hC hbad
        go_enter Try.func59, Try.ntmps59
        go_wp2_with (fail)
        refine key.mono ?_; rintro e w1 ⟨rfl, hb⟩
        rw [hk]
        go_wp2_with (go_at_call 70; refine (l00In_any _ _ _ _).mono ?_; rintro e w' ⟨rfl, rfl⟩)
        go_ret2
        exact ⟨⟨_, rfl, hO w1 hb.size⟩, bl_new hb _⟩
      · have hi := (inR_iff _ _ _).1 h1
        obtain ⟨q, rfl⟩ : ∃ q : Nat, i = (q : Int) := ⟨i.toNat, by omega⟩
        have i2 : (q : Int) < (xs.length : Int) := by omega
        obtain ⟨b, off, rfl, hr⟩ := h.2 hpos.1
        have hrk := fun {w1 : World} (hb : Below w.heap.size w w1) => range_below hr hb
        rw [h1, h2, Int.toNat_natCast] at hC
        by_cases h3 : 0 ≤ nth xs q
        · have hp : placeC xs q x = 0 := by rw [hC]; simp [h3]
          have h3' : ¬ (nth xs q < 0) := by omega
          have hL := As.mk (ifL_ok hp)
          rw [Int.toNat_natCast] at hL
          have hok := place_ok hp
          rw [Int.toNat_natCast] at hok
          have hrd := fun W A c h => l02Read_any (xs.set q x) A c W h (set_bd rx h2)
          have hx := (inR_iff _ _ _).1 h2
          have x1 := hx.1
          have x2 := hx.2
          rw [hp]
          clear hC hbad hi h3 hx
          have hlen := i8s_length xs
          go_enter Try.func59, Try.ntmps59
          go_wp2_with (fail)
          refine key.mono ?_; rintro e w1 ⟨rfl, hb⟩
          rw [hk]
          have c0 : w1.cell? ⟨b, off + q, none⟩ = some (.int .i8 (nth xs q)) := hrk hb _ _ (i8s_get xs _ (by omega))
          have hO := Own.lit w1 w1.heap.size 62 [] (Nat.le_refl _) (by simp)
          have hb' := bl_new (Below.refl _ w1) (.cells #[] 62)
          have hr' : (w1.alloc (.cells #[] 62)).rangeAt b off (i8s xs) := range_below (hrk hb) hb'
          go_wp2_with (first | (go_at_call 70; refine (l00In_any _ _ _ _).mono ?_; rintro e w' ⟨rfl, rfl⟩) | (at_builtin; refine appN (w0 := w1) (w1.heap.size) rfl (.tmp 33) (.tmp 34) 24 62 (.int .i8 0) 1 rfl Try.underlying24 info_i8 rfl (by omega) (.slice (some ⟨w1.heap.size, 0, none⟩) 0 0) [] (i8s xs) b off c xs.length rfl rfl (i8s_length _) (i8s_one _) hO hr' hb' hb'.size (by simp; omega) ?_))
          intro v1 w2 hO2 hb2 _ _
          have hO2 : Own w2 w1.heap.size 62 v1 (i8s xs) := hO2
          obtain ⟨A1, c1, rfl, S1⟩ := hO2.sl
          obtain ⟨g, rfl⟩ := hO2.addr (by omega)
          obtain ⟨u0, e0⟩ := hO2.someAt q (by omega)
          have f0 := hO2.frozenAt q
          have hS := hO2.set hlen.symm q (.int .i8 x)
          rw [i8s_set] at hS
          have hg := hO2.ge g rfl
          have b3 := bl_call hb (hb2.setCell (p := ⟨g, q, none⟩) hg (.int .i8 x))
          have hS2 : Own (w2.setCell ⟨g, q, none⟩ (.int .i8 x)) w1.heap.size 62 (.slice (some ⟨g, 0, none⟩) (xs.set q x).length c1) (i8s (xs.set q x)) := by rw [List.length_set]; exact hS
          have key2 := hrd _ _ c1 hS2.sl'
          rw [List.length_set] at key2
          clear hlen hS hS2 hrd S1
          go_wp2_with (fail)
          refine key2.mono ?_; rintro e w3 ⟨⟨v3, rfl, hO3⟩, hb3⟩
          have hO3 := hO3 hok
          rw [hok]
          go_wp2_with (fail)
          go_ret2
          exact ⟨⟨_, rfl, by rw [hL.out]; exact hO3.lower b3.size⟩, bl_call b3 hb3⟩
        · have hp : placeC xs q x = 4 := by rw [hC]; simp [h3]
          have h3' : nth xs q < 0 := by omega
          have hO := fun W hW => hbad (by rw [hp]; omega) W hW
          rw [hp]
          clear hC hbad hi
          go_enter Try.func59, Try.ntmps59
          go_wp2_with (fail)
          refine key.mono ?_; rintro e w1 ⟨rfl, hb⟩
          rw [hk]
          have c0 : w1.cell? ⟨b, off + q, none⟩ = some (.int .i8 (nth xs q)) := hrk hb _ _ (i8s_get xs _ (by omega))
          go_wp2_with (go_at_call 70; refine (l00In_any _ _ _ _).mono ?_; rintro e w' ⟨rfl, rfl⟩)
          go_ret2
          exact ⟨⟨_, rfl, hO w1 hb.size⟩, bl_new hb _⟩
theorem sMeaningIf_any (xs : List Int) (i x : Int) (ri : -9223372036854775808 ≤ i ∧ i ≤ 9223372036854775807) (A : Option Addr) (c : Nat) (w : World) (h : Sl .i8 w A xs) (rx : ∀ n ∈ xs, -128 ≤ n ∧ n ≤ 127) (hn : xs.length ≤ 1048576) :
    Calls Try.prog 33 #[.slice A xs.length c, .int .i64 i, .int .i64 x] w fun e w' => Gave 62 (i8s (ifL xs i x)) (placeC xs i x) w.heap.size e w' ∧ Below w.heap.size w w' := by
  have key := l02If_any xs i x ri A c w h rx hn
  go_enter Try.func33, Try.ntmps33
  go_wp2_with (fail)
  refine key.mono ?_; rintro e w1 ⟨⟨v, rfl, hO⟩, hb⟩
  go_wp2_with (fail)
  go_ret2
  exact ⟨⟨_, rfl, hO⟩, hb⟩
end Go.Proofs.Ytllplgjlpndpfaa
