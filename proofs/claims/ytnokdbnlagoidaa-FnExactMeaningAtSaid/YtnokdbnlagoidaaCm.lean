/- Contracts: how many meanings there are: plain numbers; the spec's side of CountMeanings. -/
import Derived.Test.YtnokdbnlagoidaaHf
set_option linter.unusedVariables false
namespace Go.Proofs.Ytnokdbnlagoidaa
open Go.RowKit

/-- A list of one to eight kinds is a valid meaning. -/
theorem kinds_read {m : List Int} (hm : ∀ x ∈ m, 0 ≤ x ∧ x ≤ 39) : ∀ k, k ≤ m.length → hRead m k = some (m.take k, 0)
  | 0, _ => rfl
  | k + 1, hk => by
    have h := hm _ (nth_mem m k (by omega))
    rw [hRead_succ (kinds_read hm k (by omega)), hStep_kind h.1 h.2, take_nth' m k (by omega)]
theorem kinds_mOk {m : List Int} (hm : ∀ x ∈ m, 0 ≤ x ∧ x ≤ 39) (h1 : 1 ≤ m.length) (h8 : m.length ≤ 8) : mOk m = true := by
  unfold mOk
  rw [hOk_some (kinds_read hm m.length (Nat.le_refl _))]
  have h2 : inR (m.length : Int) 1 8 = true := by rw [inR_iff]; omega
  have h3 : m.all isMn = true := by
    rw [List.all_eq_true]; intro x hx; have := hm x hx; simp [isMn]; omega
  rw [h2, h3, decide_eq_true (by omega)]; rfl

/-- In how many ways k kinds in a row can be chosen. -/
def prodK (K : Nat) : Nat → Nat
  | 0 => 1
  | k + 1 => prodK K k * (K - k)
theorem prodK_le (K : Nat) : ∀ k, prodK K k ≤ K ^ k
  | 0 => by simp [prodK]
  | k + 1 => by rw [Nat.pow_succ]; exact Nat.mul_le_mul (prodK_le K k) (Nat.sub_le _ _)
def endK (K nx : Nat) : Nat := if nx < K then nx + 1 else nx
/-- The meanings that go on from a pattern, d kinds more. -/
def pat (K sets subs : Nat) : Nat → List Int → Nat → Nat
  | 0, m, nx => if (found m sets subs).isEmpty then 0 else prodK K nx
  | d + 1, m, nx => ((List.range (endK K nx)).map fun (x : Nat) => pat K sets subs d (m ++ [(x : Int)]) (if x = nx then nx + 1 else nx)).sum
/-- The first k of them. -/
def patK (K sets subs d : Nat) (m : List Int) (nx k : Nat) : Nat := ((List.range k).map fun (x : Nat) => pat K sets subs d (m ++ [(x : Int)]) (if x = nx then nx + 1 else nx)).sum
theorem patK_zero {K sets subs d : Nat} {m : List Int} {nx : Nat} : patK K sets subs d m nx 0 = 0 := rfl
theorem patK_succ {K sets subs d : Nat} {m : List Int} {nx k : Nat} : patK K sets subs d m nx (k + 1) = patK K sets subs d m nx k + pat K sets subs d (m ++ [(k : Int)]) (if k = nx then nx + 1 else nx) := by
  unfold patK; rw [List.range_succ, List.map_append, List.sum_append]; simp
theorem pat_succ {K sets subs d : Nat} {m : List Int} {nx : Nat} : pat K sets subs (d + 1) m nx = patK K sets subs d m nx (endK K nx) := rfl
theorem patK_mono {K sets subs d : Nat} {m : List Int} {nx : Nat} (k j : Nat) (h : k ≤ j) : patK K sets subs d m nx k ≤ patK K sets subs d m nx j := by
  induction j with
  | zero => obtain rfl : k = 0 := by omega
            exact Nat.le_refl _
  | succ j ih =>
    by_cases e : k = j + 1
    · subst e; exact Nat.le_refl _
    · rw [patK_succ]; have := ih (by omega); omega
theorem pat_le (K sets subs : Nat) : ∀ (d : Nat) (m : List Int) (nx : Nat), nx ≤ K → pat K sets subs d m nx ≤ prodK K nx * K ^ d
  | 0, m, nx, h => by unfold pat; split <;> simp
  | d + 1, m, nx, h => by
    have h1 : ∀ k, k ≤ nx → patK K sets subs d m nx k ≤ k * (prodK K nx * K ^ d) := by
      intro k
      induction k with
      | zero => intro _; rw [patK_zero]; omega
      | succ k ih =>
        intro hk
        rw [patK_succ, if_neg (by omega), Nat.succ_mul]
        exact Nat.add_le_add (ih (by omega)) (pat_le K sets subs d _ nx h)
    rw [pat_succ]
    unfold endK
    split
    · rename_i hl
      rw [patK_succ, if_pos rfl]
      have h2 := h1 nx (Nat.le_refl _)
      have h3 := pat_le K sets subs d (m ++ [(nx : Int)]) (nx + 1) hl
      have e1 : nx * (prodK K nx * K ^ d) + prodK K (nx + 1) * K ^ d = prodK K nx * K ^ (d + 1) := by
        rw [show prodK K (nx + 1) = prodK K nx * (K - nx) from rfl, Nat.pow_succ]
        rw [show nx * (prodK K nx * K ^ d) = (prodK K nx * K ^ d) * nx from Nat.mul_comm _ _, show prodK K nx * (K - nx) * K ^ d = (prodK K nx * K ^ d) * (K - nx) by rw [Nat.mul_assoc, Nat.mul_assoc, Nat.mul_comm (K - nx)]]
        rw [← Nat.mul_add, Nat.add_sub_cancel' h, Nat.mul_assoc]
      omega
    · have e : nx = K := by omega
      have h2 := h1 nx (Nat.le_refl _)
      rw [Nat.pow_succ]
      rw [e] at h2 ⊢
      rw [show prodK K K * (K ^ d * K) = K * (prodK K K * K ^ d) by rw [← Nat.mul_assoc, Nat.mul_comm]]
      exact h2
theorem pow40 {K j : Nat} (hK : K ≤ 40) (hj : j ≤ 6) : K ^ j ≤ 4096000000 := by
  refine Nat.le_trans (Nat.pow_le_pow_left hK j) ?_
  refine Nat.le_trans (Nat.pow_le_pow_right (by omega) hj) (by decide)
theorem prodK_bound {K k : Nat} (hK : K ≤ 40) (hk : k ≤ 6) : prodK K k ≤ 4096000000 := Nat.le_trans (prodK_le K k) (pow40 hK hk)
theorem pat_bound {K sets subs d : Nat} {m : List Int} {nx : Nat} (h1 : nx ≤ K) (hK : K ≤ 40) (hl : nx + d ≤ 6) : pat K sets subs d m nx ≤ 4096000000 := by
  refine Nat.le_trans (pat_le K sets subs d m nx h1) (Nat.le_trans (Nat.mul_le_mul_right _ (prodK_le K nx)) ?_)
  rw [← Nat.pow_add]
  exact pow40 hK hl
theorem patK_bound {K sets subs d : Nat} {m : List Int} {nx k : Nat} (h1 : nx ≤ K) (hK : K ≤ 40) (hl : nx + (d + 1) ≤ 6) (hk : k ≤ endK K nx) : patK K sets subs d m nx k ≤ 4096000000 := by
  refine Nat.le_trans (patK_mono k _ hk) ?_
  rw [← pat_succ]
  exact pat_bound h1 hK hl

/-- The contract of the count where d kinds are still to come (spec). -/
def PatOk (K len sets subs d : Nat) : Prop := ∀ (m : List Int) (nx : Nat), m.length + d = len → nx ≤ m.length → nx ≤ K → (∀ x ∈ m, 0 ≤ x ∧ x ≤ 39) → ∀ (g c : Nat) (w : World), w.rangeAt g 0 (i8s m) →
  Calls Try.prog 60 #[.slice (some ⟨g, 0, none⟩) m.length c, .int .i8 nx, .int .i64 K, .int .i64 len, .int .i64 sets, .int .i64 subs] w fun e w' => e = .returned (.int .i64 (pat K sets subs d m nx)) ∧ Below w.heap.size w w'

set_option maxRecDepth 100000 in
set_option maxHeartbeats 2000000 in
theorem pat_leaf (K len sets subs : Nat) (hK : K ≤ 40) (hlen : 1 ≤ len ∧ len ≤ 6) (hsets : sets ≤ 8) (hsubs : subs ≤ 4) : PatOk K len sets subs 0 := by
  intro m nx hd hnx hnK hmk g c w hr
  have hm := kinds_mOk hmk (by omega) (by omega)
  have hs : Sl .i8 w (some ⟨g, 0, none⟩) m := Sl.of_range hr (by omega)
  have fnd := l02Find_any m hm (some ⟨g, 0, none⟩) c sets subs hsubs hsets w hs
  have hF := found_count m sets subs hsubs (mOk_len hm).2
  have hP := As.mk (show pat K sets subs 0 m nx = if (found m sets subs).isEmpty then 0 else prodK K nx from rfl)
  have hl : m.length = len := by omega
  have hnx6 : nx ≤ 6 := by omega
  generalize pat K sets subs 0 m nx = res at *
  generalize hT : found m sets subs = T at *
  rw [hl] at fnd ⊢
  have hN := hlen.2
  have hK' : (K : Int) ≤ 40 := by omega
  have hn6 : (nx : Int) ≤ 6 := by omega
  clear hd hnx hmk hr hm hs hl hlen
  go_enter Try.func60, Try.ntmps60
  go_wp2_with (fail)
  refine fnd.mono ?_; rintro e w1 ⟨⟨B, rfl, hB, S2⟩, hb⟩
  obtain ⟨_, fv, hBk, _⟩ := S2
  have c3 := (St.cell hBk).2.2.2.1
  cases T with
  | nil =>
    have hP0 : res = 0 := hP.out
    rw [show (([] : List (List Int)).length : Int) = 0 from rfl] at c3
    go_wp2_with (fail)
    go_ret
    exact ⟨ret_n (by rw [hP0]; rfl), hb⟩
  | cons t ts =>
    have hP0 : res = prodK K nx := hP.out
    have hne : (((t :: ts).length : Int) == 0) = false := by rw [beq_eq_false_iff_ne, List.length_cons]; omega
    generalize (t :: ts).length = tn at *
    clear hF
    go_wp2_with (fail)
    go_loopw [13, 14] (fun n k wr => ∃ j : Nat, j ≤ nx ∧ k = .int .i64 j ∧ n = .int .i64 (prodK K j) ∧ wr = w1) (fun _ k _ => nx - (intOf k).toNat)
    case atStart => exact ⟨0, by omega, rfl, rfl, rfl⟩
    case round =>
      obtain ⟨j, hj, rfl, rfl, rfl⟩ := hrel
      by_cases hlt : j < nx
      · have hlt' : (j : Int) < (nx : Int) := by omega
        have hp1 := prodK_bound (k := j) hK (by omega)
        have hp2 := prodK_bound (k := j + 1) hK (by omega)
        have hjK : (j : Int) ≤ (K : Int) := by omega
        have hmul : (prodK K j : Int) * ((K : Int) - (j : Int)) = (prodK K (j + 1) : Int) := by
          rw [show prodK K (j + 1) = prodK K j * (K - j) from rfl, Int.natCast_mul, Int.natCast_sub (by omega)]
        have hw : IntKind.i64.wrap ((prodK K j : Int) * ((K : Int) - (j : Int))) = (prodK K (j + 1) : Int) := by
          rw [hmul]; simp [IntKind.wrap, IntKind.bits, IntKind.signed]; omega
        generalize prodK K j = pj at *
        generalize hpj1 : prodK K (j + 1) = pj1 at *
        have HE := As.mk hpj1
        clear hpj1
        clear hP hP0
        go_wp2_with (fail)
        go_roundw
        case rel => exact ⟨j + 1, by omega, by go_num, by rw [HE.out], by trivial⟩
        case measure => simp [intOf]; omega
      · obtain rfl : j = nx := by omega
        go_wp2_with (fail)
        go_ret
        exact ⟨ret_n (by rw [hP0]), hb⟩

set_option maxRecDepth 100000 in
set_option maxHeartbeats 4000000 in
theorem pat_step (K len sets subs d : Nat) (hK : K ≤ 40) (hlen : 1 ≤ len ∧ len ≤ 6) (ih : PatOk K len sets subs d) : PatOk K len sets subs (d + 1) := by
  intro m nx hd hnx hnK hmk g c w hr
  have hP := As.mk (show pat K sets subs (d + 1) m nx = patK K sets subs d m nx (endK K nx) from rfl)
  have hl : ((m.length : Int) == (len : Int)) = false := by rw [beq_eq_false_iff_ne]; omega
  have hbd := fun k (hk : k ≤ endK K nx) => patK_bound (K := K) (sets := sets) (subs := subs) (d := d) (m := m) (nx := nx) (k := k) hnK hK (by omega) hk
  have hm6 : m.length ≤ 5 := by omega
  have hl2 : ∀ x : Int, (m ++ [x]).length = m.length + 1 := fun x => by simp
  have ih2 := As.mk (fun (x : Nat) (hx : x < endK K nx) => ih (m ++ [(x : Int)]) (if x = nx then nx + 1 else nx) (by rw [hl2]; omega) (by rw [hl2]; split <;> omega) (by unfold endK at hx; split at hx <;> split <;> omega)
    (fun y hy => by
      rcases List.mem_append.1 hy with hy | hy
      · exact hmk y hy
      · simp at hy; subst hy; unfold endK at hx; split at hx <;> omega))
  have hil := i8s_length m
  have hnx6 : nx ≤ 5 := by omega
  have hn6 : (nx : Int) ≤ 5 := by omega
  have hK' : (K : Int) ≤ 40 := by omega
  have hnK' : (nx : Int) ≤ (K : Int) := by omega
  have HB := As.mk hbd
  have HL := As.mk hl2
  generalize hres : pat K sets subs (d + 1) m nx = res at *
  clear ih hd hnx hmk hbd hlen hl2 hres
  generalize hmn : m.length = mn at *
  go_enter Try.func60, Try.ntmps60
  go_wp2_with (fail)
  go_loopw [15, 16] (fun sum x wr => ∃ k : Nat, k ≤ endK K nx ∧ x = .int .i8 k ∧ sum = .int .i64 (patK K sets subs d m nx k) ∧ Below w.heap.size w wr) (fun _ x _ => nx + 1 - (intOf x).toNat)
  case atStart => exact ⟨0, by omega, rfl, rfl, Below.refl _ _⟩
  case round =>
    obtain ⟨k, hk, rfl, rfl, hb⟩ := hrel
    have hke := As.mk hk
    by_cases hlt : k < endK K nx
    · have hi := ih2.out k hlt
      have hb1 := HB.out k (by omega)
      have hb2 := HB.out (k + 1) hlt
      have hps := As.mk (patK_succ (K := K) (sets := sets) (subs := subs) (d := d) (m := m) (nx := nx) (k := k))
      rw [hps.out] at hb2
      have hkK : k < K := by unfold endK at hlt; split at hlt <;> omega
      have hkn : k ≤ nx := by unfold endK at hlt; split at hlt <;> omega
      have hkK' : (k : Int) < (K : Int) := by omega
      have hkn' : (k : Int) ≤ (nx : Int) := by omega
      have hO := Own.lit wr wr.heap.size 42 [] (Nat.le_refl _) (by simp)
      have hb' := bl_new (Below.refl _ wr) (.cells #[] 42)
      have hr' : (wr.alloc (.cells #[] 42)).rangeAt g 0 (i8s m) := range_below (range_below hr hb) hb'
      have hlt' := As.mk hlt
      have hps' := As.mk (HL.out (k : Int))
      rw [hps'.out] at hi
      generalize hpv : pat K sets subs d (m ++ [(k : Int)]) (if k = nx then nx + 1 else nx) = pv at *
      generalize hpk : patK K sets subs d m nx k = pk at *
      have hb1' : (pk : Int) ≤ 4096000000 := by omega
      have hb2' : (pk : Int) + (pv : Int) ≤ 4096000000 := by omega
      clear hlt hb1 hb2 hk
      by_cases he : k = nx
      · have he' : ((k : Int) == (nx : Int)) = true := by rw [beq_iff_eq]; omega
        rw [if_pos he] at hi
        rw [show ((nx + 1 : Nat) : Int) = (nx : Int) + 1 from rfl] at hi
        clear hpv hpk he
        go_wp2_with (at_builtin; refine appN (w0 := wr) (wr.heap.size) rfl (.tmp 60) (.tmp 61) 26 42 (.int .i8 0) 1 rfl Try.underlying26 info_i8 rfl (by omega) (.slice (some ⟨wr.heap.size, 0, none⟩) 0 0) ([]) (i8s m) g 0 c mn rfl rfl hil (i8s_one _) hO hr' hb' hb'.size (by simp; omega) ?_)
        intro v1 w1 hO1 hb1 _ _
        have hO1 : Own w1 wr.heap.size 42 v1 (i8s m) := hO1
        go_wp2_with (at_builtin; refine app1 (w0 := wr) (wr.heap.size) rfl (.tmp 62) (.tmp 64) 26 42 (.int .i8 0) 1 rfl Try.underlying26 info_i8 rfl (by omega) (v1) (i8s m) (.int .i8 (k : Int)) rfl rfl rfl hO1 hb1 hb1.size (by rw [hil]; omega) ?_)
        intro v2 w2 hO2 hb2 _ _
        rw [i8s_snoc] at hO2
        obtain ⟨A2, c2, rfl, Sl2⟩ := hO2.sl
        obtain ⟨g2, rfl⟩ := hO2.addr (by rw [i8s_length, hps'.out]; omega)
        have hr2 : w2.rangeAt g2 0 (i8s (m ++ [(k : Int)])) := by
          obtain ⟨b3, o3, e3, r3⟩ := Sl2.2 (by rw [hps'.out]; omega)
          simp only [Option.some.injEq, Addr.mk.injEq] at e3
          rw [e3.1, e3.2.1]; exact r3
        have hi2 := hi g2 c2 w2 hr2
        rw [hps'.out]
        have hb3 := hb.trans (hb2.mono hb.size)
        clear hO1 hb1 hO2 Sl2 hr2 hO hb' hr' hi
        go_wp2_with (fail)
        refine hi2.mono ?_; rintro e w3 ⟨rfl, hb4⟩
        have hb5 := bl_call hb3 hb4
        go_wp2_with (fail)
        go_roundw
        case rel => exact ⟨k + 1, hlt'.out, by go_num, by rw [hps.out, Int.natCast_add], hb5⟩
        case measure => simp [intOf]; omega
      · have he' : ((k : Int) == (nx : Int)) = false := by rw [beq_eq_false_iff_ne]; omega
        rw [if_neg he] at hi
        clear hpv hpk he
        go_wp2_with (at_builtin; refine appN (w0 := wr) (wr.heap.size) rfl (.tmp 60) (.tmp 61) 26 42 (.int .i8 0) 1 rfl Try.underlying26 info_i8 rfl (by omega) (.slice (some ⟨wr.heap.size, 0, none⟩) 0 0) ([]) (i8s m) g 0 c mn rfl rfl hil (i8s_one _) hO hr' hb' hb'.size (by simp; omega) ?_)
        intro v1 w1 hO1 hb1 _ _
        have hO1 : Own w1 wr.heap.size 42 v1 (i8s m) := hO1
        go_wp2_with (at_builtin; refine app1 (w0 := wr) (wr.heap.size) rfl (.tmp 62) (.tmp 64) 26 42 (.int .i8 0) 1 rfl Try.underlying26 info_i8 rfl (by omega) (v1) (i8s m) (.int .i8 (k : Int)) rfl rfl rfl hO1 hb1 hb1.size (by rw [hil]; omega) ?_)
        intro v2 w2 hO2 hb2 _ _
        rw [i8s_snoc] at hO2
        obtain ⟨A2, c2, rfl, Sl2⟩ := hO2.sl
        obtain ⟨g2, rfl⟩ := hO2.addr (by rw [i8s_length, hps'.out]; omega)
        have hr2 : w2.rangeAt g2 0 (i8s (m ++ [(k : Int)])) := by
          obtain ⟨b3, o3, e3, r3⟩ := Sl2.2 (by rw [hps'.out]; omega)
          simp only [Option.some.injEq, Addr.mk.injEq] at e3
          rw [e3.1, e3.2.1]; exact r3
        have hi2 := hi g2 c2 w2 hr2
        rw [hps'.out]
        have hb3 := hb.trans (hb2.mono hb.size)
        clear hO1 hb1 hO2 Sl2 hr2 hO hb' hr' hi
        go_wp2_with (fail)
        refine hi2.mono ?_; rintro e w3 ⟨rfl, hb4⟩
        have hb5 := bl_call hb3 hb4
        go_wp2_with (fail)
        go_roundw
        case rel => exact ⟨k + 1, hlt'.out, by go_num, by rw [hps.out, Int.natCast_add], hb5⟩
        case measure => simp [intOf]; omega
    · have hke' : k = endK K nx := by have := hke.out; omega
      by_cases hkx : k ≤ nx
      · have h1 : (k : Int) ≤ (nx : Int) := by omega
        have h2 : ¬ ((k : Int) < (K : Int)) := by unfold endK at hke'; split at hke' <;> omega
        have hk6 : (k : Int) ≤ 6 := by omega
        have hfin := As.mk (show (patK K sets subs d m nx k) = res by rw [hke']; exact hP.out.symm)
        clear hke' hkx hlt hk
        go_wp2_with (fail)
        go_ret
        exact ⟨ret_n (by rw [hfin.out]), hb⟩
      · have h1 : ¬ ((k : Int) ≤ (nx : Int)) := by omega
        have hk6 : (k : Int) ≤ 6 := by unfold endK at hke'; split at hke' <;> omega
        have hfin := As.mk (show (patK K sets subs d m nx k) = res by rw [hke']; exact hP.out.symm)
        clear hke' hkx hlt hk
        go_wp2_with (fail)
        go_ret
        exact ⟨ret_n (by rw [hfin.out]), hb⟩

theorem patOk (K len sets subs : Nat) (hK : K ≤ 40) (hlen : 1 ≤ len ∧ len ≤ 6) (hsets : sets ≤ 8) (hsubs : subs ≤ 4) : ∀ d, PatOk K len sets subs d
  | 0 => pat_leaf K len sets subs hK hlen hsets hsubs
  | d + 1 => pat_step K len sets subs d hK hlen (patOk K len sets subs hK hlen hsets hsubs d)

/-- The code of a count, and the count. -/
def cntC (K len sets subs : Int) : Int := if inR K 1 40 && inR len 1 6 && inR sets 1 8 && inR subs 0 4 then 0 else 2
def cntN (K len sets subs : Int) : Int := if cntC K len sets subs = 0 then (pat K.toNat sets.toNat subs.toNat len.toNat [] 0 : Int) else 0
theorem cnt_nat {K len sets subs : Int} (h : cntC K len sets subs = 0) : (K = (K.toNat : Int) ∧ len = (len.toNat : Int) ∧ sets = (sets.toNat : Int) ∧ subs = (subs.toNat : Int)) ∧ (1 ≤ K.toNat ∧ K.toNat ≤ 40) ∧ (1 ≤ len.toNat ∧ len.toNat ≤ 6) ∧ sets.toNat ≤ 8 ∧ subs.toNat ≤ 4 := by
  unfold cntC at h
  split at h
  · rename_i h1
    simp only [Bool.and_eq_true, inR_iff] at h1
    omega
  · omega
set_option maxRecDepth 100000 in
set_option maxHeartbeats 2000000 in
theorem sCountMeanings_any (K len sets subs : Int) (w : World) :
    Calls Try.prog 27 #[.int .i64 K, .int .i64 len, .int .i64 sets, .int .i64 subs] w fun e w' => e = .returned (.tuple #[.int .i64 (cntN K len sets subs), .int .i64 (cntC K len sets subs)]) ∧ Below w.heap.size w w' := by
  have hC := As.mk (show cntC K len sets subs = if inR K 1 40 && inR len 1 6 && inR sets 1 8 && inR subs 0 4 then 0 else 2 from rfl)
  have hN := As.mk (show cntN K len sets subs = if cntC K len sets subs = 0 then (pat K.toNat sets.toNat subs.toNat len.toNat [] 0 : Int) else 0 from rfl)
  have hbad : ∀ c : Int, (inR K 1 40 && inR len 1 6 && inR sets 1 8 && inR subs 0 4) = false → cntN K len sets subs = 0 ∧ cntC K len sets subs = 2 := fun c h => by
    have h2 : cntC K len sets subs = 2 := by rw [hC.out, h]; rfl
    exact ⟨by rw [hN.out, h2]; rfl, h2⟩
  cases h1 : inR K 1 40
  · have hb := As.mk (hbad 0 (by rw [h1]; rfl))
    clear hbad
    go_enter Try.func27, Try.ntmps27
    go_wp2_with (go_at_call 59; refine (l00In_any _ _ _ _).mono ?_; rintro e w' ⟨rfl, rfl⟩)
    go_ret2
    exact ⟨ret_2 hb.out.1.symm hb.out.2.symm, Below.refl _ _⟩
  · cases h2 : inR len 1 6
    · have hb := As.mk (hbad 0 (by rw [h1, h2]; rfl))
      clear hbad
      go_enter Try.func27, Try.ntmps27
      go_wp2_with (go_at_call 59; refine (l00In_any _ _ _ _).mono ?_; rintro e w' ⟨rfl, rfl⟩)
      go_ret2
      exact ⟨ret_2 hb.out.1.symm hb.out.2.symm, Below.refl _ _⟩
    · cases h3 : inR sets 1 8
      · have hb := As.mk (hbad 0 (by rw [h1, h2, h3]; rfl))
        clear hbad
        go_enter Try.func27, Try.ntmps27
        go_wp2_with (go_at_call 59; refine (l00In_any _ _ _ _).mono ?_; rintro e w' ⟨rfl, rfl⟩)
        go_ret2
        exact ⟨ret_2 hb.out.1.symm hb.out.2.symm, Below.refl _ _⟩
      · cases h4 : inR subs 0 4
        · have hb := As.mk (hbad 0 (by rw [h1, h2, h3, h4]; rfl))
          clear hbad
          go_enter Try.func27, Try.ntmps27
          go_wp2_with (go_at_call 59; refine (l00In_any _ _ _ _).mono ?_; rintro e w' ⟨rfl, rfl⟩)
          go_ret2
          exact ⟨ret_2 hb.out.1.symm hb.out.2.symm, Below.refl _ _⟩
        · have hc0 : cntC K len sets subs = 0 := by rw [hC.out, h1, h2, h3, h4]; rfl
          obtain ⟨⟨e1, e2, e3, e4⟩, l1, l2, l3, l4⟩ := cnt_nat hc0
          have hn := hN.out
          rw [if_pos hc0] at hn
          have key := patOk K.toNat len.toNat sets.toNat subs.toNat l1.2 l2 l3 l4 len.toNat [] 0 (by simp) (by simp) (by omega) (by simp) w.heap.size 0 (w.alloc (.cells #[] 42)) (fun j v hv => by simp [i8s] at hv)
          rw [← hn, ← e1, ← e2, ← e3, ← e4] at key
          rw [show (([] : List Int).length) = 0 from rfl, show ((0 : Nat) : Int) = 0 from rfl] at key
          rw [hc0]
          have hb0 := bl_new (Below.refl _ w) (.cells #[] 42)
          clear hbad e1 e2 e3 e4 l1 l2 l3 l4 hn hc0
          go_enter Try.func27, Try.ntmps27
          go_wp2_with (first | (go_at_call 59; refine (l00In_any _ _ _ _).mono ?_; rintro e w' ⟨rfl, rfl⟩) | (refine key.mono ?_; rintro e w1 ⟨rfl, hb⟩))
          go_ret2
          exact ⟨rfl, bl_call hb0 hb⟩
end Go.Proofs.Ytnokdbnlagoidaa
