/- Contracts: FlagsFor (both sides). -/
import Derived.Test.YtnokdbnlagoidaaVb
import Derived.Test.YtnokdbnlagoidaaG9
set_option linter.unusedVariables false
namespace Go.Proofs.Ytnokdbnlagoidaa
open Go.RowKit

set_option maxHeartbeats 400000 in
theorem IndexFunc_64s (g : Nat) (lb : Array Value) (eg : ∀ args w, (callFunc g args).run Try.prog w = .ok (.enter g args) w) (xs : List Int) (p : Nat → Bool) (A : Option Addr) (c : Nat) (w : World)
    (hp : Pred g lb (fun k => .int .i64 (nth xs k)) xs.length p w) (hs : Sl .i64 w A xs) :
    Calls Try.prog 107 #[.slice A xs.length c, .func (.func g) #[] lb] w fun e w' => e = .returned (.int .i64 (firstIdx p xs.length 0)) ∧ Below w.heap.size w w' := by
  have hbig := hs.1
  go_enter Try.func107, Try.ntmps107
  go_wp2
  go_loopw [5, 8] (fun _ i wr => ∃ k : Nat, k ≤ xs.length ∧ i = .int .i64 k ∧ Below w.heap.size w wr ∧ As (∀ j, j < k → p j = false)) (fun _ i _ => xs.length - (intOf i).toNat)
  case atStart => exact ⟨0, by omega, rfl, Below.refl _ _, ⟨fun j hj => by omega⟩⟩
  case round =>
    obtain ⟨k, hk, rfl, hb, H⟩ := hrel
    by_cases hlt : k < xs.length
    · obtain ⟨b, o, rfl, hr⟩ := hs.2 (by omega)
      have c0 : wr.cell? ⟨b, o + k, none⟩ = some (.int .i64 (nth xs k)) := by
        have h0 := hr k _ (i64s_get xs k hlt)
        rw [hb.cell (World.block_lt_of_cell? w _ h0)]; exact h0
      have hcall := hp wr k hlt hb
      cases hq : p k with
      | true =>
        rw [hq] at hcall
        go_wp2_with (refine hcall.mono ?_; rintro e w' ⟨rfl, hb'⟩)
        go_ret
        exact ⟨ret_n (by rw [firstIdx_hit p xs.length 0 k hlt (by simpa using H.out) (by simpa using hq)]; simp), bl_call hb hb'⟩
      | false =>
        rw [hq] at hcall
        go_wp2_with (refine hcall.mono ?_; rintro e w' ⟨rfl, hb'⟩)
        go_roundw
        case rel => exact ⟨k + 1, by omega, by go_num, bl_call hb hb', ⟨all_succ H.out hq⟩⟩
        case measure => simp [intOf]; omega
    · obtain rfl : k = xs.length := by omega
      go_wp2
      go_ret
      exact ⟨ret_n (by rw [firstIdx_miss p xs.length 0 (by simpa using H.out)]), hb⟩
theorem ContainsFunc_64s (g : Nat) (lb : Array Value) (eg : ∀ args w, (callFunc g args).run Try.prog w = .ok (.enter g args) w) (xs : List Int) (p : Nat → Bool) (A : Option Addr) (c : Nat) (w : World)
    (hp : Pred g lb (fun k => .int .i64 (nth xs k)) xs.length p w) (hs : Sl .i64 w A xs) :
    Calls Try.prog 97 #[.slice A xs.length c, .func (.func g) #[] lb] w fun e w' => e = .returned (.bool (anyBelow p xs.length)) ∧ Below w.heap.size w w' := by
  rw [← firstIdx_nonneg]
  go_enter Try.func97, Try.ntmps97
  go_wp2_with (go_at_call 107; refine (IndexFunc_64s g lb eg xs p A c _ hp hs).mono ?_; rintro e w' ⟨rfl, hb⟩)
  go_ret
  exact ⟨rfl, hb⟩
theorem usesCode1_any (n : Int) (w : World) : Calls Try.prog 98 #[.int .i64 n] w fun e w' => e = .returned (.bool (!inR n 0 1000000)) ∧ Below w.heap.size w w' := by
  go_enter Try.func98, Try.ntmps98
  go_wp2_with (go_at_call 61; refine (within_any _ _ _ _).mono ?_; rintro e w' ⟨rfl, rfl⟩)
  go_ret
  exact ⟨rfl, Below.refl _ _⟩

/-- All uses are as told. -/
def uses (ns : List Int) : Bool := ns.all fun x => inR x 0 1000000
theorem any_uses (xs : List Int) : anyBelow (fun k => !inR (nth xs k) 0 1000000) xs.length = !uses xs := by
  unfold anyBelow uses
  rw [Bool.eq_iff_iff]
  simp only [Bool.not_eq_true', List.any_eq_true, List.mem_range]
  rw [← Bool.not_eq_true, List.all_eq_true]
  constructor
  · rintro ⟨k, hk, h⟩ hall
    have := hall (nth xs k) (nth_mem xs k hk)
    rw [this] at h; cases h
  · intro h
    apply Classical.byContradiction
    intro hn
    apply h
    intro x hx
    obtain ⟨i, hi, rfl⟩ := List.mem_iff_getElem.1 hx
    cases hq : inR xs[i] 0 1000000 with
    | true => rfl
    | false => exact absurd ⟨i, hi, by rw [← nth_get _ _ hi]; exact hq⟩ hn
theorem uses_at {ns : List Int} (h : uses ns = true) (k : Nat) (hk : k < ns.length) : 0 ≤ nth ns k ∧ nth ns k ≤ 1000000 := by
  unfold uses at h
  rw [List.all_eq_true] at h
  exact (inR_iff _ _ _).1 (h _ (nth_mem ns k hk))
theorem uses_bad {ns : List Int} (k : Nat) (hk : k < ns.length) (h : inR (nth ns k) 0 1000000 = false) : uses ns = false := by
  unfold uses; rw [List.all_eq_false]
  exact ⟨_, nth_mem ns k hk, by rw [h]; simp⟩
theorem uses_good {ns : List Int} (h : ∀ k, k < ns.length → inR (nth ns k) 0 1000000 = true) : uses ns = true := by
  unfold uses; rw [List.all_eq_true]
  intro x hx
  obtain ⟨i, hi, rfl⟩ := List.mem_iff_getElem.1 hx
  rw [nth_get _ _ hi]; exact h i hi
/-- The code of a book and its uses. -/
def useC (b : Bok) (ns : List Int) : Int := if okB b then (if decide (ns.length = b.ps.length) && uses ns then 0 else 2) else 1
theorem useC_zero {b : Bok} {ns : List Int} (h : useC b ns = 0) : okB b = true ∧ ns.length = b.ps.length ∧ uses ns = true := by
  unfold useC at h
  split at h
  · rename_i h1
    split at h
    · rename_i h2
      rw [Bool.and_eq_true, decide_eq_true_eq] at h2
      exact ⟨h1, h2.1, h2.2⟩
    · omega
  · omega

set_option maxRecDepth 100000 in
set_option maxHeartbeats 4000000 in
theorem l03Uses_any (b : Bok) (hr : bokR b) (A : Option Addr) (c P : Nat) (ns : List Int) (A1 : Option Addr) (c1 : Nat) (w : World) (hB : Blk w P (bokC b A c) 48) (h : SlS w A b.ps) (hs : Sl .i64 w A1 ns) :
    Calls Try.prog 80 #[.pointer (some ⟨P, 0, none⟩), .slice A1 ns.length c1] w fun e w' => e = .returned (.int .i64 (useC b ns)) ∧ Below w.heap.size w w' := by
  have key := l03Ok_any b hr A c P w hB h
  have hD := As.mk (show useC b ns = if okB b then (if decide (ns.length = b.ps.length) && uses ns then 0 else 2) else 1 from rfl)
  have hbig := h.1
  have hbig2 := hs.1
  have hcl : ∀ W, Below w.heap.size w W → W.cell? ⟨P, 3, none⟩ = some (.slice A b.ps.length c) := fun W hW => by rw [(hB.kept hW).at]; rfl
  cases hz : okB b
  · rw [hz] at key
    have hz := As.mk hz
    clear hcl
    go_enter Try.func80, Try.ntmps80
    go_wp2_with (fail)
    refine key.mono ?_; rintro e w1 ⟨rfl, hb⟩
    go_wp2_with (fail)
    go_ret
    exact ⟨ret_n (by rw [hD.out, hz.out]; rfl), hb⟩
  rw [hz] at key
  have hz := As.mk hz
  by_cases hl : ns.length = b.ps.length
  case neg =>
    have hne : ((ns.length : Int) != (b.ps.length : Int)) = true := by rw [bne_iff_ne]; omega
    have hl := As.mk hl
    generalize hn1 : ns.length = n at *
    generalize hn2 : b.ps.length = m at *
    have hl2 := As.mk (show decide (n = m) = false from decide_eq_false hl.out)
    clear hn1 hn2
    go_enter Try.func80, Try.ntmps80
    go_wp2_with (fail)
    refine key.mono ?_; rintro e w1 ⟨rfl, hb⟩
    have cc := hcl w1 hb
    clear hcl
    go_wp2_with (fail)
    go_ret
    exact ⟨ret_n (by rw [hD.out, hz.out, hl2.out]; rfl), hb⟩
  rw [← hl] at hcl hbig
  have hl2 := As.mk (show decide (ns.length = b.ps.length) = true from decide_eq_true hl)
  have hbad := fun k hk h => As.mk (uses_bad (ns := ns) k hk h)
  have hgood := As.mk (uses_good (ns := ns))
  clear hl
  generalize hn1 : ns.length = n at *
  have HN := As.mk hn1
  clear hn1
  go_enter Try.func80, Try.ntmps80
  go_wp2_with (fail)
  refine key.mono ?_; rintro e w1 ⟨rfl, hb⟩
  have cc := hcl w1 hb
  have hs1 := hs.kept hb
  clear hcl
  go_wp2_with (fail)
  go_loopw [5] (fun i wr => ∃ k : Nat, k ≤ n ∧ i = .int .i64 k ∧ w1 = wr ∧ As (∀ j, j < k → inR (nth ns j) 0 1000000 = true)) (fun i _ => n - (intOf i).toNat)
  case atStart => exact ⟨0, by omega, rfl, rfl, ⟨fun j hj => by omega⟩⟩
  case round =>
    obtain ⟨k, hk, rfl, rfl, H⟩ := hrel
    by_cases hlt : k < n
    · have hlt' : (k : Int) < (n : Int) := by omega
      obtain ⟨b1, o, rfl, hr1⟩ := hs1.2 (by rw [HN.out]; omega)
      have c0 := hr1 k _ (i64s_get ns k (by rw [HN.out]; exact hlt))
      have hbk := hbad k hlt
      generalize hx : nth ns k = x at *
      have hx := As.mk hx
      cases hi : inR x 0 1000000
      · have hbk := hbk hi
        go_wp2_with (go_at_call 59; refine (l00In_any _ _ _ _).mono ?_; rintro e w' ⟨rfl, rfl⟩)
        go_ret
        exact ⟨ret_n (by rw [hD.out, hz.out, hl2.out, hbk.out]; rfl), hb⟩
      · have hi' := As.mk hi
        go_wp2_with (go_at_call 59; refine (l00In_any _ _ _ _).mono ?_; rintro e w' ⟨rfl, rfl⟩)
        go_roundw
        case rel => exact ⟨k + 1, by omega, by go_num, by trivial, ⟨all_succ (p := fun j => inR (nth ns j) 0 1000000 = true) H.out (by rw [hx.out]; exact hi'.out)⟩⟩
        case measure => simp [intOf]; omega
    · obtain rfl : k = n := by omega
      have hg := As.mk (hgood.out H.out)
      go_wp2_with (fail)
      go_ret
      exact ⟨ret_n (by rw [hD.out, hz.out, hl2.out, hg.out]; rfl), hb⟩

set_option maxRecDepth 100000 in
set_option maxHeartbeats 4000000 in
theorem usesCode_any (b : Bok) (hr : bokR b) (A : Option Addr) (c : Nat) (ns : List Int) (A1 : Option Addr) (c1 : Nat) (w : World) (h : SlS w A b.ps) (hc : b.ps.length ≤ c) (hs : Sl .i64 w A1 ns) :
    Calls Try.prog 81 #[bok b A c, .slice A1 ns.length c1] w fun e w' => e = .returned (.int .i64 (useC b ns)) ∧ Below w.heap.size w w' := by
  have bb := bl_new (Below.refl _ w) (.cells (bokC b A c).toArray 48)
  have B0 := Blk.mk w (bokC b A c) 48 rfl
  have g0 := h.kept bb
  have key := ValidBook_any b hr A c _ g0 hc
  have hs0 := hs.kept bb
  have hD := As.mk (show useC b ns = if okB b then (if decide (ns.length = b.ps.length) && uses ns then 0 else 2) else 1 from rfl)
  have hbig := h.1
  have hbig2 := hs.1
  have lb := bokC_length b A c
  have c3 : ∀ W, Blk W w.heap.size (bokC b A c) 48 → W.cell? ⟨w.heap.size, 3, none⟩ = some (.slice A b.ps.length c) := fun W hW => by rw [hW.at]; rfl
  have hcf := fun W (hW : Sl .i64 W A1 ns) => ContainsFunc_64s 98 #[] (enters Try.func98 (by kernel_rfl) rfl) ns (fun k => !inR (nth ns k) 0 1000000) A1 c1 W (fun w1 k hk hb => usesCode1_any _ w1) hW
  rw [any_uses] at hcf
  unfold bok
  unfold bok at key
  generalize bokC b A c = cs at *
  cases hz : okB b
  · rw [hz] at key
    have hz := As.mk hz
    clear hcf c3
    go_enter Try.func81, Try.ntmps81
    go_wp2_with (refine load_blk rfl 48 _ rfl _ rfl B0 Try.underlying48 rfl info_ib lb ?_)
    refine key.mono ?_; rintro e w1 ⟨rfl, hb⟩
    go_wp2_with (fail)
    go_ret
    exact ⟨ret_n (by rw [hD.out, hz.out]; rfl), bl_call bb hb⟩
  rw [hz] at key
  have hz := As.mk hz
  cases hu : uses ns
  all_goals
    rw [hu] at hcf
    have hu := As.mk hu
    by_cases hl : ns.length = b.ps.length
    · rw [← hl] at c3 hbig
      have hl2 := As.mk (show decide (ns.length = b.ps.length) = true from decide_eq_true hl)
      clear hl hc
      generalize ns.length = n at *
      go_enter Try.func81, Try.ntmps81
      go_wp2_with (refine load_blk rfl 48 _ rfl _ rfl B0 Try.underlying48 rfl info_ib lb ?_)
      refine key.mono ?_; rintro e w1 ⟨rfl, hb⟩
      have hcf1 := hcf w1 (hs0.kept hb)
      have B1 := B0.kept hb
      go_wp2_with (fail)
      refine hcf1.mono ?_; rintro e w2 ⟨rfl, hb2⟩
      have cc := c3 w2 (B1.kept hb2)
      clear c3
      go_wp2_with (go_at_call 89; refine (unless_any _ _ _).mono ?_; rintro e w' ⟨rfl, rfl⟩)
      go_ret
      exact ⟨ret_n (by rw [hD.out, hz.out, hl2.out, hu.out]; rfl), bl_call (bl_call bb hb) hb2⟩
    · have hne : ((ns.length : Int) == (b.ps.length : Int)) = false := by rw [beq_eq_false_iff_ne]; omega
      have hl := As.mk hl
      clear hc
      generalize ns.length = n at *
      generalize b.ps.length = m at *
      have hl2 := As.mk (show decide (n = m) = false from decide_eq_false hl.out)
      go_enter Try.func81, Try.ntmps81
      go_wp2_with (refine load_blk rfl 48 _ rfl _ rfl B0 Try.underlying48 rfl info_ib lb ?_)
      refine key.mono ?_; rintro e w1 ⟨rfl, hb⟩
      have hcf1 := hcf w1 (hs0.kept hb)
      have B1 := B0.kept hb
      go_wp2_with (fail)
      refine hcf1.mono ?_; rintro e w2 ⟨rfl, hb2⟩
      have cc := c3 w2 (B1.kept hb2)
      clear c3
      go_wp2_with (go_at_call 89; refine (unless_any _ _ _).mono ?_; rintro e w' ⟨rfl, rfl⟩)
      go_ret
      exact ⟨ret_n (by rw [hD.out, hz.out, hl2.out]; rfl), bl_call (bl_call bb hb) hb2⟩

/-- The flags of the first k phrases. -/
def sumF (ns : List Int) (ms : List (List Int)) : Nat → Int
  | 0 => 0
  | k + 1 => sumF ns ms k + nth ns k * ((nthL ms k).length : Int)
theorem sumF_bd {ns : List Int} {ms : List (List Int)} (h1 : ∀ k, k < ns.length → 0 ≤ nth ns k ∧ nth ns k ≤ 1000000) (h2 : ∀ k, k < ns.length → (nthL ms k).length ≤ 3) : ∀ k, k ≤ ns.length → 0 ≤ sumF ns ms k ∧ sumF ns ms k ≤ 3000000 * (k : Int)
  | 0, _ => by simp [sumF]
  | k + 1, hk => by
    have ih := sumF_bd h1 h2 k (by omega)
    have a := h1 k (by omega)
    have l := h2 k (by omega)
    show 0 ≤ sumF ns ms k + _ ∧ sumF ns ms k + _ ≤ _
    have p0 : 0 ≤ nth ns k * ((nthL ms k).length : Int) := Int.mul_nonneg a.1 (by omega)
    have p1 : nth ns k * ((nthL ms k).length : Int) ≤ 1000000 * 3 := Int.mul_le_mul a.2 (by omega) (by omega) (by omega)
    omega
theorem prod_bd {x : Int} {l : Nat} (h : 0 ≤ x ∧ x ≤ 1000000) (hl : l ≤ 3) : 0 ≤ x * (l : Int) ∧ x * (l : Int) ≤ 3000000 := by
  have p0 : 0 ≤ x * (l : Int) := Int.mul_nonneg h.1 (by omega)
  have p1 : x * (l : Int) ≤ 1000000 * 3 := Int.mul_le_mul h.2 (by omega) (by omega) (by omega)
  omega
def ffN (b : Bok) (ns : List Int) : Int := if useC b ns = 0 then sumF ns (outB b) ns.length else 0

set_option maxRecDepth 100000 in
set_option maxHeartbeats 4000000 in
theorem sFlagsFor_any (b : Bok) (hr : bokR b) (A : Option Addr) (c : Nat) (ns : List Int) (A1 : Option Addr) (c1 : Nat) (w : World) (h : SlS w A b.ps) (hs : Sl .i64 w A1 ns) :
    Calls Try.prog 46 #[bok b A c, .slice A1 ns.length c1] w fun e w' => e = .returned (.tuple #[.int .i64 (ffN b ns), .int .i64 (useC b ns)]) ∧ Below w.heap.size w w' := by
  have bb := bl_new (Below.refl _ w) (.cells (bokC b A c).toArray 48)
  have B0 := Blk.mk w (bokC b A c) 48 rfl
  have g0 := h.kept bb
  have hs0 := hs.kept bb
  have key := l03Uses_any b hr A c _ ns A1 c1 _ B0 g0 hs0
  have hN := As.mk (show ffN b ns = if useC b ns = 0 then sumF ns (outB b) ns.length else 0 from rfl)
  have hbig2 := hs.1
  unfold bok
  by_cases hu : useC b ns = 0
  case neg =>
    have hne : (useC b ns != 0) = true := by rw [bne_iff_ne]; exact hu
    have hu := As.mk hu
    have hN2 := As.mk (show ffN b ns = 0 by rw [hN.out, if_neg hu.out])
    clear hN
    generalize useC b ns = q at *
    generalize bokC b A c = cs at *
    go_enter Try.func46, Try.ntmps46
    go_wp2_with (fail)
    refine key.mono ?_; rintro e w1 ⟨rfl, hb⟩
    go_wp2_with (fail)
    go_ret2
    exact ⟨ret_2 hN2.out.symm rfl, bl_call bb hb⟩
  obtain ⟨hok, hl, huse⟩ := useC_zero hu
  obtain ⟨hz, hl100, hlm⟩ := okB_parts hok
  have mns := fun W hb => sMeanings_any b hz A c w.heap.size W hb
  have hmem := outB_mem hz
  have h3 : ∀ k, k < ns.length → (nthL (outB b) k).length ≤ 3 := fun k hk => (hmem _ (nthL_mem _ k (by omega))).2.1
  have hbds := As.mk (sumF_bd (uses_at huse) h3)
  have hus := As.mk (uses_at huse)
  have h3 := As.mk h3
  have hN2 := As.mk (show ffN b ns = sumF ns (outB b) ns.length by rw [hN.out, if_pos hu])
  clear hN
  have hn100 : ns.length ≤ 100 := by omega
  have hnle : ns.length ≤ (outB b).length := by omega
  have hole := outB_le hz
  rw [hu] at key ⊢
  clear hu hok huse hz hmem
  generalize outB b = ms at *
  generalize bokC b A c = cs at *
  generalize hn1 : ns.length = n at *
  have HNl := As.mk hn1
  clear hn1 hl hl100 hlm
  have hn100' : (n : Int) ≤ 100 := by omega
  go_enter Try.func46, Try.ntmps46
  go_wp2_with (fail)
  refine key.mono ?_; rintro e w1 ⟨rfl, hb⟩
  have m1 := mns w1 (B0.kept hb)
  clear mns
  go_wp2_with (fail)
  refine m1.mono ?_; rintro e w2 ⟨⟨v, rfl, hM⟩, hb2⟩
  obtain ⟨A2, c2, rfl⟩ := hM.slice
  have hs2 := (hs0.kept hb).kept hb2
  have hbf := bl_call (bl_call bb hb) hb2
  have hole' : (ms.length : Int) ≤ 3000 := by omega
  clear m1 hb hb2 hs0 g0 B0 bb
  have HMl := As.mk (show n ≤ ms.length from hnle)
  generalize hln : ms.length = ln at *
  have hln := As.mk hln
  go_wp2_with (fail)
  go_loopw [8, 9] (fun s i wr => ∃ k : Nat, k ≤ n ∧ i = .int .i64 k ∧ s = .int .i64 (sumF ns ms k) ∧ As (∃ q, wr = w2.drewN q)) (fun _ i _ => n - (intOf i).toNat)
  case atStart => exact ⟨0, by omega, rfl, rfl, ⟨0, rfl⟩⟩
  case round =>
    obtain ⟨k, hk, rfl, rfl, HW⟩ := hrel
    have hMr : ML wr w2.heap.size (.slice A2 ln c2) ms ∨ True := .inr trivial
    clear hMr
    by_cases hlt : k < n
    · have hlt' : (k : Int) < (n : Int) := by omega
      have hltm : (k : Int) < (ln : Int) := by omega
      obtain ⟨b1, o, hA1, hr1⟩ := hs2.2 (by rw [HNl.out]; omega)
      have c0 := hr1 k _ (i64s_get ns k (by rw [HNl.out]; exact hlt))
      obtain ⟨G, g, c', hA2, cm, hI⟩ := hM.at k (by rw [hln.out]; omega)
      have e0 : wr.cell? ⟨b1, o + k, none⟩ = some (.int .i64 (nth ns k)) := by obtain ⟨q, hq⟩ := HW.out; rw [hq]; exact c0
      have em : wr.cell? ⟨G, k, none⟩ = some (.slice (some ⟨g, 0, none⟩) (nthL ms k).length c') := by obtain ⟨q, hq⟩ := HW.out; rw [hq]; exact cm
      have hus1 := hus.out k hlt
      have h31 := h3.out k hlt
      have hpb := prod_bd hus1 h31
      have hsb := hbds.out k hk
      have hst := As.mk (show sumF ns ms (k + 1) = sumF ns ms k + nth ns k * ((nthL ms k).length : Int) from rfl)
      have hd : As (∀ nq, ∃ q, wr.drewN nq = w2.drewN q) := ⟨fun nq => by obtain ⟨q, hq⟩ := HW.out; exact ⟨q + nq, by rw [hq]; simp [World.drewN, Nat.add_assoc]⟩⟩
      subst hA1
      subst hA2
      clear hr1 c0 cm hI
      generalize nth ns k = x at *
      generalize (nthL ms k).length = l at *
      generalize hsk : sumF ns ms k = sk at *
      have hsk := As.mk hsk
      obtain ⟨p, hp⟩ : ∃ p, x * (l : Int) = p := ⟨_, rfl⟩
      rw [hp] at hpb hst
      have p0 := hpb.1
      have p1 := hpb.2
      have s0 := hsb.1
      have s1 := hsb.2
      have hl9 : (l : Int) ≤ 3 := by omega
      clear hpb hsb
      go_wp2_with (fail)
      go_quiet (fail)
      go_wp2_with (fail)
      go_roundw
      case rel => exact ⟨k + 1, by omega, by go_num, by rw [hst.out], ⟨hd.out _⟩⟩
      case measure => simp [intOf]; omega
    · obtain rfl : k = n := by omega
      have hbw : As (Below w.heap.size w wr) := ⟨by obtain ⟨q, hq⟩ := HW.out; rw [hq]; exact bl_drewN hbf q⟩
      go_wp2_with (fail)
      go_ret2
      exact ⟨ret_2 (by rw [hN2.out]) rfl, hbw.out⟩

set_option maxRecDepth 100000 in
set_option maxHeartbeats 4000000 in
theorem FlagsFor_any (b : Bok) (hr : bokR b) (A : Option Addr) (c : Nat) (ns : List Int) (A1 : Option Addr) (c1 : Nat) (w : World) (h : SlS w A b.ps) (hc : b.ps.length ≤ c) (hs : Sl .i64 w A1 ns) :
    Calls Try.prog 48 #[bok b A c, .slice A1 ns.length c1] w fun e w' => e = .returned (.tuple #[.int .i64 (ffN b ns), .int .i64 (useC b ns)]) ∧ Below w.heap.size w w' := by
  have bb := bl_new (Below.refl _ w) (.cells (bokC b A c).toArray 48)
  have B0 := Blk.mk w (bokC b A c) 48 rfl
  have g0 := h.kept bb
  have hs0 := hs.kept bb
  have key := usesCode_any b hr A c ns A1 c1 _ g0 hc hs0
  have hN := As.mk (show ffN b ns = if useC b ns = 0 then sumF ns (outB b) ns.length else 0 from rfl)
  have hbig2 := hs.1
  have lb := bokC_length b A c
  unfold bok
  unfold bok at key
  by_cases hu : useC b ns = 0
  case neg =>
    have hne : (useC b ns != 0) = true := by rw [bne_iff_ne]; exact hu
    have hu := As.mk hu
    have hN2 := As.mk (show ffN b ns = 0 by rw [hN.out, if_neg hu.out])
    clear hN
    generalize useC b ns = q at *
    generalize bokC b A c = cs at *
    go_enter Try.func48, Try.ntmps48
    go_wp2_with (refine load_blk rfl 48 _ rfl _ rfl B0 Try.underlying48 rfl info_ib lb ?_)
    refine key.mono ?_; rintro e w1 ⟨rfl, hb⟩
    go_wp2_with (fail)
    go_ret2
    exact ⟨ret_2 hN2.out.symm rfl, bl_call bb hb⟩
  obtain ⟨hok, hl, huse⟩ := useC_zero hu
  obtain ⟨hz, hl100, hlm⟩ := okB_parts hok
  have mns := fun W => iMeanings_any b hz A c W
  have hmem := outB_mem hz
  have h3 : ∀ k, k < ns.length → (nthL (outB b) k).length ≤ 3 := fun k hk => (hmem _ (nthL_mem _ k (by omega))).2.1
  have hbds := As.mk (sumF_bd (uses_at huse) h3)
  have hus := As.mk (uses_at huse)
  have h3 := As.mk h3
  have hN2 := As.mk (show ffN b ns = sumF ns (outB b) ns.length by rw [hN.out, if_pos hu])
  clear hN
  have hn100 : ns.length ≤ 100 := by omega
  have hnle : ns.length ≤ (outB b).length := by omega
  have hole := outB_le hz
  rw [hu] at key ⊢
  unfold bok at mns
  clear hu hok huse hz hmem
  generalize outB b = ms at *
  generalize bokC b A c = cs at *
  generalize hn1 : ns.length = n at *
  have HNl := As.mk hn1
  clear hn1 hl hl100 hlm
  have hn100' : (n : Int) ≤ 100 := by omega
  go_enter Try.func48, Try.ntmps48
  go_wp2_with (refine load_blk rfl 48 _ rfl _ rfl B0 Try.underlying48 rfl info_ib lb ?_)
  refine key.mono ?_; rintro e w1 ⟨rfl, hb⟩
  have B1 := B0.kept hb
  go_wp2_with (refine load_blk rfl 48 _ rfl _ rfl B1 Try.underlying48 rfl info_ib lb ?_)
  refine (mns _).mono ?_; rintro e w2 ⟨⟨v, rfl, hM⟩, hb2⟩
  obtain ⟨A2, c2, rfl⟩ := hM.slice
  have hs2 := (hs0.kept hb).kept hb2
  have hbf := bl_call (bl_call bb hb) hb2
  have hole' : (ms.length : Int) ≤ 3000 := by omega
  have hcap : ms.length ≤ c2 := by obtain ⟨vs, q1, q2⟩ := hM; have := q1.cap; rw [q2.1] at this; exact this
  clear mns hb hb2 hs0 g0 B0 B1 bb
  have HMl := As.mk (show n ≤ ms.length from hnle)
  have hnc : (n : Int) ≤ (c2 : Int) := by omega
  generalize hln : ms.length = ln at *
  have hln := As.mk hln
  cases A2 with
  | none =>
    have hz : ln = 0 := by
      obtain ⟨vs, q1, q2⟩ := hM
      rcases q1.form with ⟨_, e⟩ | ⟨g, c', e, _⟩
      · rw [← hln.out, ← q2.1, e]; rfl
      · simp at e
    have hc0 : c2 = 0 := by
      obtain ⟨vs, q1, q2⟩ := hM
      rcases q1.form with ⟨e, _⟩ | ⟨g, c', e, _⟩
      · simp only [Value.slice.injEq] at e; exact e.2.2
      · simp at e
    obtain rfl : n = 0 := by omega
    subst hc0
    subst hz
    go_wp2_with (fail)
    go_loopw [7, 22] (fun s i wr => s = .int .i64 0 ∧ i = .int .i64 0 ∧ w2 = wr) (fun _ i _ => 0)
    case atStart => exact ⟨rfl, rfl, rfl⟩
    case round =>
      obtain ⟨rfl, rfl, rfl⟩ := hrel
      go_wp2_with (fail)
      go_ret2
      exact ⟨ret_2 (by rw [hN2.out]; rfl) rfl, hbf⟩
  | some a2 =>
    go_wp2_with (fail)
    go_loopw [7, 22] (fun s i wr => ∃ k : Nat, k ≤ n ∧ i = .int .i64 k ∧ s = .int .i64 (sumF ns ms k) ∧ As (∃ q, wr = w2.drewN q)) (fun _ i _ => n - (intOf i).toNat)
    case atStart => exact ⟨0, by omega, rfl, rfl, ⟨0, rfl⟩⟩
    case round =>
      obtain ⟨k, hk, rfl, rfl, HW⟩ := hrel
      by_cases hlt : k < n
      · have hlt' : (k : Int) < (n : Int) := by omega
        obtain ⟨b1, o, hA1, hr1⟩ := hs2.2 (by rw [HNl.out]; omega)
        have c0 := hr1 k _ (i64s_get ns k (by rw [HNl.out]; exact hlt))
        obtain ⟨G, g, c', hA2, cm, hI⟩ := hM.at k (by rw [hln.out]; omega)
        have e0 : wr.cell? ⟨b1, o + k, none⟩ = some (.int .i64 (nth ns k)) := by obtain ⟨q, hq⟩ := HW.out; rw [hq]; exact c0
        have em : wr.cell? ⟨G, k, none⟩ = some (.slice (some ⟨g, 0, none⟩) (nthL ms k).length c') := by obtain ⟨q, hq⟩ := HW.out; rw [hq]; exact cm
        have hus1 := hus.out k hlt
        have h31 := h3.out k hlt
        have hpb := prod_bd hus1 h31
        have hsb := hbds.out k hk
        have hst := As.mk (show sumF ns ms (k + 1) = sumF ns ms k + nth ns k * ((nthL ms k).length : Int) from rfl)
        have hd : As (∀ nq, ∃ q, wr.drewN nq = w2.drewN q) := ⟨fun nq => by obtain ⟨q, hq⟩ := HW.out; exact ⟨q + nq, by rw [hq]; simp [World.drewN, Nat.add_assoc]⟩⟩
        subst hA1
        simp only [Option.some.injEq] at hA2
        subst hA2
        clear hr1 c0 cm hI
        generalize nth ns k = x at *
        generalize (nthL ms k).length = l at *
        generalize hsk : sumF ns ms k = sk at *
        have hsk := As.mk hsk
        obtain ⟨p, hp⟩ : ∃ p, x * (l : Int) = p := ⟨_, rfl⟩
        rw [hp] at hpb hst
        have p0 := hpb.1
        have p1 := hpb.2
        have s0 := hsb.1
        have s1 := hsb.2
        have hl9 : (l : Int) ≤ 3 := by omega
        clear hpb hsb
        go_wp2_with (fail)
        go_quiet ((go_at_call 63; exact Calls.quiet_of_same ((size8_any _ _ _ _).mono fun e w' h => ⟨h.1, h.2.symm⟩)))
        go_wp2_with (fail)
        go_roundw
        case rel => exact ⟨k + 1, by omega, by go_num, by rw [hst.out], ⟨hd.out _⟩⟩
        case measure => simp [intOf]; omega
      · obtain rfl : k = n := by omega
        have hbw : As (Below w.heap.size w wr) := ⟨by obtain ⟨q, hq⟩ := HW.out; rw [hq]; exact bl_drewN hbf q⟩
        go_wp2_with (fail)
        go_ret2
        exact ⟨ret_2 (by rw [hN2.out]) rfl, hbw.out⟩
end Go.Proofs.Ytnokdbnlagoidaa
