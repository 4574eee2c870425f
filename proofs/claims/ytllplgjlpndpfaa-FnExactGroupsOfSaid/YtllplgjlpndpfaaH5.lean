/- Contracts: valid hoists and meanings; what a hoist means; alike ones: both sides. -/
import Derived.Test.YtllplgjlpndpfaaH4
import Derived.Test.YtllplgjlpndpfaaF2
import Derived.Test.YtllplgjlpndpfaaF5
import Derived.Test.YtllplgjlpndpfaaLw
set_option linter.unusedVariables false
namespace Go.Proofs.Ytllplgjlpndpfaa
open Go.RowKit

set_option maxHeartbeats 400000 in
theorem IndexFunc_m8 (g : Nat) (lb : Array Value) (eg : ∀ args w, (callFunc g args).run Try.prog w = .ok (.enter g args) w) (xs : List Int) (p : Nat → Bool) (b o c : Nat) (w : World)
    (hp : Pred g lb (fun k => .int .i8 (nth xs k)) xs.length p w) (hbig : xs.length ≤ 9223372036854775807) (hr : w.rangeAt b o (i8s xs)) :
    Calls Try.prog 69 #[.slice (some ⟨b, o, none⟩) xs.length c, .func (.func g) #[] lb] w fun e w' => e = .returned (.int .i64 (firstIdx p xs.length 0)) ∧ Below w.heap.size w w' := by
  go_enter Try.func69, Try.ntmps69
  go_wp2
  go_loopw [5, 8] (fun _ i wr => ∃ k : Nat, k ≤ xs.length ∧ i = .int .i64 k ∧ Below w.heap.size w wr ∧ As (∀ j, j < k → p j = false)) (fun _ i _ => xs.length - (intOf i).toNat)
  case atStart => exact ⟨0, by omega, rfl, Below.refl _ _, ⟨fun j hj => by omega⟩⟩
  case round =>
    obtain ⟨k, hk, rfl, hb, H⟩ := hrel
    by_cases hlt : k < xs.length
    · have c0 : wr.cell? ⟨b, o + k, none⟩ = some (.int .i8 (nth xs k)) := by
        have h0 := hr k _ (by rw [i8s_get xs k hlt])
        rw [hb.cell (World.block_lt_of_cell? w _ h0)]; exact h0
      have hcall := hp wr k hlt hb
      cases hq : p k with
      | true =>
        rw [hq] at hcall
        go_wp2_with (refine hcall.mono ?_; rintro e w' ⟨rfl, hb'⟩)
        go_ret
        exact ⟨ret_n (by rw [firstIdx_hit p xs.length 0 k hlt (by simpa using H.out) (by simpa using hq)]; simp), bl_call hb hb'⟩
      | false =>
        rw [hq] at hcall
        go_wp2_with (refine hcall.mono ?_; rintro e w' ⟨rfl, hb'⟩)
        go_roundw
        case rel => exact ⟨k + 1, by omega, by go_num, bl_call hb hb', ⟨all_succ H.out hq⟩⟩
        case measure => simp [intOf]; omega
    · obtain rfl : k = xs.length := by omega
      go_wp2
      go_ret
      exact ⟨ret_n (by rw [firstIdx_miss p xs.length 0 (by simpa using H.out)]), hb⟩

theorem ContainsFunc_m8 (g : Nat) (lb : Array Value) (eg : ∀ args w, (callFunc g args).run Try.prog w = .ok (.enter g args) w) (xs : List Int) (p : Nat → Bool) (b o c : Nat) (w : World)
    (hp : Pred g lb (fun k => .int .i8 (nth xs k)) xs.length p w) (hbig : xs.length ≤ 9223372036854775807) (hr : w.rangeAt b o (i8s xs)) :
    Calls Try.prog 53 #[.slice (some ⟨b, o, none⟩) xs.length c, .func (.func g) #[] lb] w fun e w' => e = .returned (.bool (anyBelow p xs.length)) ∧ Below w.heap.size w w' := by
  rw [← firstIdx_nonneg]
  go_enter Try.func53, Try.ntmps53
  go_wp2_with (go_at_call 69; refine (IndexFunc_m8 g lb eg xs p b o c _ hp hbig hr).mono ?_; rintro e w' ⟨rfl, hb⟩)
  go_ret
  exact ⟨rfl, hb⟩



theorem ValidHoist_any (xs : List Int) (A : Option Addr) (c : Nat) (w : World) (h : Sl .i8 w A xs) (rx : ∀ n ∈ xs, -128 ≤ n ∧ n ≤ 127) (hn : xs.length ≤ 1048576) :
    Calls Try.prog 15 #[.slice A xs.length c] w fun e w' => e = .returned (.bool (hOk xs)) ∧ Below w.heap.size w w' := by
  go_enter Try.func15, Try.ntmps15
  go_wp2_with (fail)
  refine (meaning_any xs A c _ h rx hn).mono ?_; rintro e w1 ⟨⟨v, rfl, hO⟩, hb⟩
  go_wp2_with (fail)
  go_ret
  exact ⟨rfl, hb⟩
theorem l02Ok_any (xs : List Int) (A : Option Addr) (c : Nat) (w : World) (h : Sl .i8 w A xs) (rx : ∀ n ∈ xs, -128 ≤ n ∧ n ≤ 127) :
    Calls Try.prog 50 #[.slice A xs.length c] w fun e w' => e = .returned (.bool (hOk xs)) ∧ Below w.heap.size w w' := by
  go_enter Try.func50, Try.ntmps50
  go_wp2_with (fail)
  refine (l02Read_any xs A c _ h rx).mono ?_; rintro e w1 ⟨⟨v, rfl, hO⟩, hb⟩
  go_wp2_with (fail)
  go_ret
  exact ⟨rfl, hb⟩
theorem sValidHoist_any (xs : List Int) (A : Option Addr) (c : Nat) (w : World) (h : Sl .i8 w A xs) (rx : ∀ n ∈ xs, -128 ≤ n ∧ n ≤ 127) :
    Calls Try.prog 13 #[.slice A xs.length c] w fun e w' => e = .returned (.bool (hOk xs)) ∧ Below w.heap.size w w' := by
  go_enter Try.func13, Try.ntmps13
  go_wp2_with (fail)
  refine (l02Ok_any xs A c _ h rx).mono ?_; rintro e w1 ⟨rfl, hb⟩
  go_wp2_with (fail)
  go_ret
  exact ⟨rfl, hb⟩

theorem ValidMeaning1_any (n : Int) (w : World) : Calls Try.prog 54 #[.int .i8 n] w fun e w' => e = .returned (.bool (!isMn n)) ∧ Below w.heap.size w w' := by
  by_cases h : n < 0
  · have h' : isMn n = (n == -10) := by unfold isMn; simp; omega
    rw [h']
    cases h1 : (n == -10)
    all_goals
      go_enter Try.func54, Try.ntmps54
      go_wp2_with (fail)
      go_ret
      exact ⟨ret_b (by simp_all), Below.refl _ _⟩
  · have h' : isMn n = true := by unfold isMn; simp; omega
    rw [h']
    go_enter Try.func54, Try.ntmps54
    go_wp2_with (fail)
    go_ret
    exact ⟨rfl, Below.refl _ _⟩
theorem any_isMn (xs : List Int) : (!anyBelow (fun k => !isMn (nth xs k)) xs.length) = xs.all isMn := by
  unfold anyBelow
  rw [Bool.eq_iff_iff]
  simp only [Bool.not_eq_true', List.any_eq_false, List.all_eq_true, List.mem_range]
  constructor
  · intro h x hx
    obtain ⟨i, hi, rfl⟩ := List.mem_iff_getElem.1 hx
    rw [nth_get xs i hi]
    simpa using h i hi
  · intro h i hi
    simpa using h _ (nth_mem xs i hi)
set_option maxHeartbeats 400000 in
theorem ValidMeaning_any (xs : List Int) (A : Option Addr) (c : Nat) (w : World) (h : Sl .i8 w A xs) (rx : ∀ n ∈ xs, -128 ≤ n ∧ n ≤ 127) (hn : xs.length ≤ 1048576) :
    Calls Try.prog 19 #[.slice A xs.length c] w fun e w' => e = .returned (.bool (mOk xs)) ∧ Below w.heap.size w w' := by
  have key := fun W => ValidHoist_any xs A c W
  unfold mOk
  rw [← any_isMn]
  cases hk : hOk xs
  · go_enter Try.func19, Try.ntmps19
    go_wp2_with (fail)
    refine (key _ h rx hn).mono ?_; rintro e w1 ⟨rfl, hb⟩
    rw [hk]
    go_wp2_with (fail)
    go_ret
    exact ⟨rfl, hb⟩
  · obtain ⟨b, o, rfl, hr⟩ := h.2 (hOk_len hk).1
    have hcf := fun W h' => ContainsFunc_m8 54 #[] (enters Try.func54 (by kernel_rfl) rfl) xs (fun k => !isMn (nth xs k)) b o c W (fun W k _ _ => ValidMeaning1_any _ W) h.1 h'
    generalize anyBelow (fun k => !isMn (nth xs k)) xs.length = r at *
    go_enter Try.func19, Try.ntmps19
    go_wp2_with (fail)
    refine (key _ h rx hn).mono ?_; rintro e w1 ⟨rfl, hb⟩
    rw [hk]
    go_wp2_with (fail)
    refine (hcf _ (range_kept hr hb)).mono ?_; rintro e w2 ⟨rfl, hb2⟩
    go_wp2_with (fail)
    go_ret
    exact ⟨by simp, bl_call hb hb2⟩
set_option maxHeartbeats 400000 in
theorem l02Plain_any (xs : List Int) (A : Option Addr) (c : Nat) (w : World) (h : Sl .i8 w A xs) (rx : ∀ n ∈ xs, -128 ≤ n ∧ n ≤ 127) :
    Calls Try.prog 52 #[.slice A xs.length c] w fun e w' => e = .returned (.bool (mOk xs)) ∧ Below w.heap.size w w' := by
  have key := l02Ok_any xs A c w h rx
  have hbig := h.1
  have hM := As.mk (show mOk xs = (hOk xs && xs.all isMn) from rfl)
  obtain ⟨n, hm⟩ : ∃ n, xs.length = n := ⟨_, rfl⟩
  have HM := As.mk hm
  rw [hm] at key hbig ⊢
  clear hm rx
  go_enter Try.func52, Try.ntmps52
  go_wp2
  go_loopw [3] (fun i wr => ∃ k : Nat, k ≤ n ∧ i = .int .i64 k ∧ wr = w ∧ As (∀ j, j < k → isMn (nth xs j) = true)) (fun i _ => n - (intOf i).toNat)
  case atStart => exact ⟨0, by omega, rfl, rfl, ⟨fun j hj => by omega⟩⟩
  case round =>
    obtain ⟨k, hk, rfl, rfl, H⟩ := hrel
    by_cases hlt : k < n
    · have hlt' : (k : Int) < (n : Int) := by omega
      obtain ⟨b, o, rfl, hr⟩ := h.2 (by rw [HM.out]; omega)
      have c0 : wr.cell? ⟨b, o + k, none⟩ = some (.int .i8 (nth xs k)) := hr k _ (i8s_get xs k (by rw [HM.out]; omega))
      have hmem := As.mk (nth_mem xs k (by rw [HM.out]; exact hlt))
      cases hi : isMn (nth xs k)
      · have h1 : nth xs k < 0 ∧ nth xs k ≠ -10 := by
          simp only [isMn, Bool.or_eq_false_iff, decide_eq_false_iff_not, beq_eq_false_iff_ne] at hi; omega
        have h2 := h1.1
        have h3 : (nth xs k != -10) = true := by rw [bne_iff_ne]; exact h1.2
        have hall : xs.all isMn = false := by rw [List.all_eq_false]; exact ⟨_, hmem.out, by rw [hi]; simp⟩
        clear h1
        go_wp2_with (fail)
        go_ret
        exact ⟨ret_b (by rw [hM.out, hall, Bool.and_false]), Below.refl _ _⟩
      · have hi' := As.mk hi
        by_cases h2 : nth xs k < 0
        · have h3 : (nth xs k != -10) = false := by
            simp only [isMn, Bool.or_eq_true, decide_eq_true_eq, beq_iff_eq] at hi
            rw [bne_eq_false_iff_eq]; omega
          clear hi
          go_wp2_with (fail)
          go_roundw
          case rel => exact ⟨k + 1, by omega, by go_num, trivial, ⟨all_succ H.out hi'.out⟩⟩
          case measure => simp [intOf]; omega
        · clear hi
          go_wp2_with (fail)
          go_roundw
          case rel => exact ⟨k + 1, by omega, by go_num, trivial, ⟨all_succ H.out hi'.out⟩⟩
          case measure => simp [intOf]; omega
    · obtain rfl : k = n := by omega
      have hall : xs.all isMn = true := by
        rw [List.all_eq_true]
        intro x hx
        obtain ⟨i, hi, rfl⟩ := List.mem_iff_getElem.1 hx
        rw [nth_get xs i hi]
        exact H.out i (by rw [← HM.out]; exact hi)
      go_wp2_with (fail)
      refine key.mono ?_; rintro e w1 ⟨rfl, hb⟩
      go_wp2_with (fail)
      go_ret
      exact ⟨ret_b (by rw [hM.out, hall, Bool.and_true]), hb⟩
theorem sValidMeaning_any (xs : List Int) (A : Option Addr) (c : Nat) (w : World) (h : Sl .i8 w A xs) (rx : ∀ n ∈ xs, -128 ≤ n ∧ n ≤ 127) :
    Calls Try.prog 17 #[.slice A xs.length c] w fun e w' => e = .returned (.bool (mOk xs)) ∧ Below w.heap.size w w' := by
  go_enter Try.func17, Try.ntmps17
  go_wp2_with (fail)
  refine (l02Plain_any xs A c _ h rx).mono ?_; rintro e w1 ⟨rfl, hb⟩
  go_wp2_with (fail)
  go_ret
  exact ⟨rfl, hb⟩

/-- A slice of numbers of its own, and a code. -/
def Gave (t : TypeId) (ys : List Value) (cc : Int) (base : Nat) (e : Ending) (w' : World) : Prop := ∃ v, e = .returned (.tuple #[v, .int .i64 cc]) ∧ Own w' base t v ys
theorem MeaningOf_any (xs : List Int) (A : Option Addr) (c : Nat) (w : World) (h : Sl .i8 w A xs) (rx : ∀ n ∈ xs, -128 ≤ n ∧ n ≤ 127) (hn : xs.length ≤ 1048576) :
    Calls Try.prog 28 #[.slice A xs.length c] w fun e w' => Gave 62 (i8s (hMean xs)) (codeV (hOk xs)) w.heap.size e w' ∧ Below w.heap.size w w' := by
  have key := meaning_any xs A c w h rx hn
  cases hk : hOk xs
  all_goals
    go_enter Try.func28, Try.ntmps28
    go_wp2_with (fail)
    refine key.mono ?_; rintro e w1 ⟨⟨v, rfl, hO⟩, hb⟩
    rw [hk]
    go_wp2_with (fail)
    go_ret2
    refine ⟨⟨_, rfl, ?_⟩, hb⟩
    first | exact hO hk | (rw [hMean_bad hk]; exact Own.nil _ _ _)
theorem sMeaningOf_any (xs : List Int) (A : Option Addr) (c : Nat) (w : World) (h : Sl .i8 w A xs) (rx : ∀ n ∈ xs, -128 ≤ n ∧ n ≤ 127) :
    Calls Try.prog 27 #[.slice A xs.length c] w fun e w' => Gave 62 (i8s (hMean xs)) (codeV (hOk xs)) w.heap.size e w' ∧ Below w.heap.size w w' := by
  have key := l02Read_any xs A c w h rx
  cases hk : hOk xs
  · go_enter Try.func27, Try.ntmps27
    go_wp2_with (fail)
    refine key.mono ?_; rintro e w1 ⟨⟨v, rfl, hO⟩, hb⟩
    rw [hk]
    go_wp2_with (fail)
    go_ret2
    exact ⟨⟨_, rfl, by rw [hMean_bad hk]; exact Own.lit w1 w.heap.size 62 [] hb.size (by simp)⟩, bl_new hb _⟩
  · go_enter Try.func27, Try.ntmps27
    go_wp2_with (fail)
    refine key.mono ?_; rintro e w1 ⟨⟨v, rfl, hO⟩, hb⟩
    rw [hk]
    go_wp2_with (fail)
    go_ret2
    exact ⟨⟨_, rfl, hO hk⟩, hb⟩
theorem WithoutSubs_any (xs : List Int) (A : Option Addr) (c : Nat) (w : World) (h : Sl .i8 w A xs) (rx : ∀ n ∈ xs, -128 ≤ n ∧ n ≤ 127) (hn : xs.length ≤ 1048576) :
    Calls Try.prog 22 #[.slice A xs.length c] w fun e w' => Gave 62 (i8s (hMean xs)) (codeV (hOk xs)) w.heap.size e w' ∧ Below w.heap.size w w' := by
  have key := MeaningOf_any xs A c w h rx hn
  go_enter Try.func22, Try.ntmps22
  go_wp2_with (fail)
  refine key.mono ?_; rintro e w1 ⟨⟨v, rfl, hO⟩, hb⟩
  go_wp2_with (fail)
  go_ret2
  exact ⟨⟨_, rfl, hO⟩, hb⟩
theorem sWithoutSubs_any (xs : List Int) (A : Option Addr) (c : Nat) (w : World) (h : Sl .i8 w A xs) (rx : ∀ n ∈ xs, -128 ≤ n ∧ n ≤ 127) :
    Calls Try.prog 21 #[.slice A xs.length c] w fun e w' => Gave 62 (i8s (hMean xs)) (codeV (hOk xs)) w.heap.size e w' ∧ Below w.heap.size w w' := by
  have key := l02Read_any xs A c w h rx
  cases hk : hOk xs
  · go_enter Try.func21, Try.ntmps21
    go_wp2_with (fail)
    refine key.mono ?_; rintro e w1 ⟨⟨v, rfl, hO⟩, hb⟩
    rw [hk]
    go_wp2_with (fail)
    go_ret2
    exact ⟨⟨_, rfl, by rw [hMean_bad hk]; exact Own.lit w1 w.heap.size 62 [] hb.size (by simp)⟩, bl_new hb _⟩
  · go_enter Try.func21, Try.ntmps21
    go_wp2_with (fail)
    refine key.mono ?_; rintro e w1 ⟨⟨v, rfl, hO⟩, hb⟩
    rw [hk]
    go_wp2_with (fail)
    go_ret2
    exact ⟨⟨_, rfl, hO hk⟩, hb⟩

/-- Two hoists mean the same; the code. -/
def alikeB (xs ys : List Int) : Bool := hOk xs && hOk ys && decide (hMean xs = hMean ys)
def alikeC (xs ys : List Int) : Int := codeV (hOk xs && hOk ys)
set_option maxHeartbeats 400000 in
theorem AlikeHoists_any (xs ys : List Int) (A B : Option Addr) (c d : Nat) (w : World) (h : Sl .i8 w A xs) (rx : ∀ n ∈ xs, -128 ≤ n ∧ n ≤ 127) (hn : xs.length ≤ 1048576) (h' : Sl .i8 w B ys) (ry : ∀ n ∈ ys, -128 ≤ n ∧ n ≤ 127) (hn' : ys.length ≤ 1048576) :
    Calls Try.prog 26 #[.slice A xs.length c, .slice B ys.length d] w fun e w' => e = .returned (.tuple #[.bool (alikeB xs ys), .int .i64 (alikeC xs ys)]) ∧ Below w.heap.size w w' := by
  have key := meaning_any xs A c w h rx hn
  have key2 := fun W h => meaning_any ys B d W h ry hn'
  unfold alikeB alikeC
  cases hk : hOk xs <;> cases hk2 : hOk ys
  iterate 3
    · go_enter Try.func26, Try.ntmps26
      go_wp2_with (fail)
      refine key.mono ?_; rintro e w1 ⟨⟨v, rfl, hO⟩, hb⟩
      rw [hk]
      go_wp2_with (fail)
      refine (key2 _ (h'.kept hb)).mono ?_; rintro e w2 ⟨⟨v2, rfl, hO2⟩, hb2⟩
      rw [hk2]
      go_wp2_with (fail)
      go_ret2
      exact ⟨rfl, bl_call hb hb2⟩
  · go_enter Try.func26, Try.ntmps26
    go_wp2_with (fail)
    refine key.mono ?_; rintro e w1 ⟨⟨v, rfl, hO⟩, hb⟩
    rw [hk]
    obtain ⟨A1, c1, rfl, S1⟩ := (hO hk).sl
    go_wp2_with (fail)
    refine (key2 _ (h'.kept hb)).mono ?_; rintro e w2 ⟨⟨v2, rfl, hO2⟩, hb2⟩
    rw [hk2]
    obtain ⟨A2, c2, rfl, S2⟩ := (hO2 hk2).sl
    go_wp2_with (fail)
    refine (EqualM_any _ _ _ _ _ _ _ (S1.kept hb2) S2).mono ?_; rintro e w3 ⟨rfl, hb3⟩
    go_wp2_with (fail)
    go_ret2
    exact ⟨rfl, bl_call (bl_call hb hb2) hb3⟩
set_option maxHeartbeats 400000 in
theorem sAlikeHoists_any (xs ys : List Int) (A B : Option Addr) (c d : Nat) (w : World) (h : Sl .i8 w A xs) (rx : ∀ n ∈ xs, -128 ≤ n ∧ n ≤ 127) (h' : Sl .i8 w B ys) (ry : ∀ n ∈ ys, -128 ≤ n ∧ n ≤ 127) :
    Calls Try.prog 25 #[.slice A xs.length c, .slice B ys.length d] w fun e w' => e = .returned (.tuple #[.bool (alikeB xs ys), .int .i64 (alikeC xs ys)]) ∧ Below w.heap.size w w' := by
  have key := l02Read_any xs A c w h rx
  have key2 := fun W h => l02Read_any ys B d W h ry
  unfold alikeB alikeC
  cases hk : hOk xs <;> cases hk2 : hOk ys
  iterate 3
    · go_enter Try.func25, Try.ntmps25
      go_wp2_with (fail)
      refine key.mono ?_; rintro e w1 ⟨⟨v, rfl, hO⟩, hb⟩
      rw [hk]
      go_wp2_with (fail)
      refine (key2 _ (h'.kept hb)).mono ?_; rintro e w2 ⟨⟨v2, rfl, hO2⟩, hb2⟩
      rw [hk2]
      go_wp2_with (fail)
      go_ret2
      exact ⟨rfl, bl_call hb hb2⟩
  · go_enter Try.func25, Try.ntmps25
    go_wp2_with (fail)
    refine key.mono ?_; rintro e w1 ⟨⟨v, rfl, hO⟩, hb⟩
    rw [hk]
    obtain ⟨A1, c1, rfl, S1⟩ := (hO hk).sl
    go_wp2_with (fail)
    refine (key2 _ (h'.kept hb)).mono ?_; rintro e w2 ⟨⟨v2, rfl, hO2⟩, hb2⟩
    rw [hk2]
    obtain ⟨A2, c2, rfl, S2⟩ := (hO2 hk2).sl
    go_wp2_with (fail)
    refine (l02Same_any _ _ _ _ _ _ _ (S1.kept hb2) S2).mono ?_; rintro e w3 ⟨rfl, hb3⟩
    go_wp2_with (fail)
    go_ret2
    exact ⟨rfl, bl_call (bl_call hb hb2) hb3⟩
end Go.Proofs.Ytllplgjlpndpfaa
