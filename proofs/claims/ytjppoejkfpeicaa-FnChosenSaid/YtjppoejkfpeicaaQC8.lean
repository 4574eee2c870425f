/- Contracts and plain facts, several texts in one. -/
import Derived.Test.YtjppoejkfpeicaaQC7
import Derived.Test.YtjppoejkfpeicaaQC5
import Derived.StillTailTactics
import Derived.Test.YtjppoejkfpeicaaQC4
/- Contracts: MostDistinct (spec): the search that goes down. -/
set_option linter.unusedVariables false
set_option linter.unusedSimpArgs false
namespace Go.Proofs.Ytjppoejkfpeicaa
open Go.RowKit

theorem results_none2 {fn : Func} (h : fn.results = #[]) (tmps : Array Value) (P : Program) (w : World) : (results fn tmps).run P w = .ok (.tuple #[]) w := by simp [results, h]
theorem fits_eq (fs : List (List Int)) (n : Int) (T : List Nat) (i : Nat) : fitsB fs (ni T) i n = fitsN (gF fs n) T i := by
  unfold fitsB fitsN anyBelow
  rw [ni_length, Bool.eq_iff_iff]
  simp only [Bool.not_eq_true', List.any_eq_false, List.all_eq_true, List.mem_range]
  constructor
  · intro h y hy
    obtain ⟨j, hj, rfl⟩ := List.mem_iff_getElem.1 hy
    have := h j hj
    unfold tooNear at this
    rw [ni_nth T j hj, List.getD_eq_getElem?_getD, List.getElem?_eq_getElem hj] at this
    unfold gF
    simp at this ⊢
    exact this
  · intro h j hj
    have := h T[j] (List.getElem_mem hj)
    unfold tooNear
    rw [ni_nth T j hj, List.getD_eq_getElem?_getD, List.getElem?_eq_getElem hj]
    unfold gF at this
    simp at this ⊢
    exact this
theorem Blk.byGrown {w w' : World} {b : Nat} {cs : List Value} {t : TypeId} {row : Option Nat} (h : Blk w b cs t) (hg : w.grownBy w' row) (hne : row ≠ Option.some b) : Blk w' b cs t :=
  (hg.block b h.lt (fun e => hne e.symm)).trans h
theorem Own.cut {w : World} {base : Nat} {e : TypeId} {A : Option Addr} {n c : Nat} {cs : List Value} {y : Value} (h : Own w base e (.slice A n c) (cs ++ [y])) : Own w base e (.slice A cs.length c) cs := by
  obtain ⟨h1, h2⟩ := h
  rcases h2 with ⟨hv, hn⟩ | ⟨g, cap, cur, hv, hg, hh, r1, r2, r3⟩
  · simp at hn
  · obtain ⟨rfl, rfl, rfl⟩ : A = Option.some ⟨g, 0, none⟩ ∧ n = (cs ++ [y]).length ∧ c = cap := by simpa using hv
    refine ⟨by simp, .inr ⟨g, c, cur, rfl, hg, hh, by simp at r1; omega, r2, r3.1, ?_⟩⟩
    have h3 := congrArg (List.take cs.length) r3.2
    rw [List.take_take] at h3
    simpa using h3
theorem Own.cutBlock {A : Option Addr} {n m c : Nat} : (Value.slice A m c).ownBlock = (Value.slice A n c).ownBlock := by cases A <;> rfl

theorem Own.range {w : World} {base : Nat} {e : TypeId} {g n c : Nat} {cs : List Value} (h : Own w base e (.slice (some ⟨g, 0, none⟩) n c) cs) : w.rangeAt g 0 cs := by
  rcases h.form with ⟨hv, _⟩ | ⟨g', c', hv, _, _, hr, _⟩
  · cases hv
  · obtain ⟨rfl, _⟩ : g = g' ∧ c = c' := by simp at hv; exact ⟨hv.1, hv.2.2⟩
    exact hr
theorem SlF.keptB {w w' : World} {base : Nat} {A : Option Addr} {fs : List (List Int)} (h : SlF w A fs) (hb : Below base w w') (hlow : ∀ b o, A = some ⟨b, o, none⟩ → 0 < fs.length → b < base) : SlF w' A fs :=
  ⟨h.1, h.2.1, h.2.2.1, fun hp => by
    obtain ⟨b, o, e, hr⟩ := h.2.2.2 hp
    exact ⟨b, o, e, fun i f hf j v hv => by rw [hb.cell (hlow b o e hp)]; exact hr i f hf j v hv⟩⟩

/-- The search's state. -/
structure Cho (w : World) (base C : Nat) (A : Option Addr) (len c : Nat) (n : Int) (T Bs : List Nat) (tv bv : Value) : Prop where
  blk : Blk w C [.slice A len c, .int .i64 n, tv, bv] 66
  own : Own w base 2 tv (i64s (ni T))
  best : Own w base 2 bv (i64s (ni Bs))
  low : base ≤ C
  tne : tv.ownBlock ≠ some C
  bne : bv.ownBlock ≠ some C
  tb : tv.ownBlock = none ∨ tv.ownBlock ≠ bv.ownBlock
theorem Cho.kept {w w' : World} {base C : Nat} {A : Option Addr} {len c : Nat} {n : Int} {T Bs : List Nat} {tv bv : Value} (h : Cho w base C A len c n T Bs tv bv) (hb : Below w.heap.size w w') : Cho w' base C A len c n T Bs tv bv :=
  ⟨h.blk.kept hb, h.own.kept hb, h.best.kept hb, h.low, h.tne, h.bne, h.tb⟩
theorem Cho.drewN {w : World} {base C : Nat} {A : Option Addr} {len c : Nat} {n : Int} {T Bs : List Nat} {tv bv : Value} (h : Cho w base C A len c n T Bs tv bv) (q : Nat) : Cho (w.drewN q) base C A len c n T Bs tv bv :=
  ⟨h.blk, h.own, h.best, h.low, h.tne, h.bne, h.tb⟩
theorem Cho.drew {w : World} {base C : Nat} {A : Option Addr} {len c : Nat} {n : Int} {T Bs : List Nat} {tv bv : Value} (h : Cho w base C A len c n T Bs tv bv) : Cho w.drew base C A len c n T Bs tv bv :=
  ⟨h.blk, h.own, h.best, h.low, h.tne, h.bne, h.tb⟩
theorem bl_drew {B : Nat} {w w' : World} (h : Below B w w') : Below B w w'.drew := ⟨h.os, h.tape, h.output, h.size, h.block⟩
theorem keepC {w W W' : World} {C : Nat} {u0 u1 u2 : Value} (h : Below w.heap.size w W ∧ W.cell? ⟨C, 0, none⟩ = some u0 ∧ W.cell? ⟨C, 1, none⟩ = some u1 ∧ W.cell? ⟨C, 2, none⟩ = some u2) (hb : Below W.heap.size W W') :
    Below w.heap.size w W' ∧ W'.cell? ⟨C, 0, none⟩ = some u0 ∧ W'.cell? ⟨C, 1, none⟩ = some u1 ∧ W'.cell? ⟨C, 2, none⟩ = some u2 :=
  ⟨bl_call h.1 hb, (hb.cell (World.block_lt_of_cell? W _ h.2.1)).trans h.2.1, (hb.cell (World.block_lt_of_cell? W _ h.2.2.1)).trans h.2.2.1, (hb.cell (World.block_lt_of_cell? W _ h.2.2.2)).trans h.2.2.2⟩

def FromOk (fs : List (List Int)) (n : Int) (A : Option Addr) (c : Nat) (m : Nat) : Prop :=
  ∀ (k : Nat) (T Bs : List Nat) (tv bv : Value) (w : World) (base C : Nat), k + m = fs.length → (∀ x ∈ T, x < fs.length) → T.length ≤ k → Bs.length ≤ fs.length → SlF w A fs → (∀ b o, A = some ⟨b, o, none⟩ → 0 < fs.length → b < base) → Cho w base C A fs.length c n T Bs tv bv →
    Calls Try.prog 50 #[.pointer (some ⟨C, 0, none⟩), .int .i64 (k : Int)] w fun e w' => e = .returned (.tuple #[]) ∧ (∃ tv' bv', Cho w' base C A fs.length c n T (loopS (gF fs n) m k T (updN T Bs)) tv' bv') ∧ Below base w w'

theorem loopS_length (f : Nat → Nat → Bool) : ∀ (m k : Nat) (T B : List Nat) (N : Nat), k + m = N → T.length ≤ k → B.length ≤ N → (loopS f m k T B).length ≤ N
  | 0, k, T, B, N, _, _, hB => hB
  | m + 1, k, T, B, N, hk, hT, hB => by
    unfold loopS
    split
    · refine loopS_length f m (k + 1) T _ N (by omega) (by omega) (loopS_length f m (k + 1) _ _ N (by omega) (by simp; omega) ?_)
      unfold updN
      split
      · simp; omega
      · exact hB
    · exact loopS_length f m (k + 1) T B N (by omega) (by omega) hB
theorem loop_hit {f : Nat → Nat → Bool} {m k : Nat} {T B : List Nat} (h : fitsN f T k = true) : loopS f (m + 1) k T B = loopS f m (k + 1) T (loopS f m (k + 1) (T ++ [k]) (updN (T ++ [k]) B)) := by
  show (if _ then _ else _) = _
  rw [if_pos h]
theorem loop_miss {f : Nat → Nat → Bool} {m k : Nat} {T B : List Nat} (h : fitsN f T k = false) : loopS f (m + 1) k T B = loopS f m (k + 1) T B := by
  show (if _ then _ else _) = _
  rw [if_neg (by rw [h]; simp)]
theorem upd_length {T B : List Nat} {N : Nat} (hT : T.length ≤ N) (hB : B.length ≤ N) : (updN T B).length ≤ N := by unfold updN; split <;> assumption

set_option maxRecDepth 100000 in
set_option maxHeartbeats 4000000 in
/-- The loop, from its start on. -/
theorem from_step (fs : List (List Int)) (hv : vfs fs = true) (h12 : fs.length ≤ 12) (n : Int) (A : Option Addr) (c : Nat) (M : Nat) (ih : ∀ m, m < M → FromOk fs n A c m) : FromOk fs n A c M := by
  intro k T Bs tv bv w base C hk hT hTk hBs hs hlow hC
  obtain ⟨A1, c1, rfl, S1⟩ := hC.own.sl
  obtain ⟨A2, c2, rfl, S2⟩ := hC.best.sl
  have HK := As.mk hk
  have HT := As.mk hT
  have ih' := As.mk ih
  obtain ⟨N, hN⟩ : ∃ N, fs.length = N := ⟨_, rfl⟩
  have HM := As.mk hN
  have hbase : base ≤ w.heap.size := Nat.le_trans hC.low (Nat.le_of_lt hC.blk.lt)
  have hC0 := hC
  obtain ⟨hB, hO, hO2, hl0, htn, hbn, htb⟩ := hC
  have c0 := hB.at 0
  have c2' := hB.at 2
  have c3' := hB.at 3
  simp only [List.getElem?_cons_zero, List.getElem?_cons_succ] at c0 c2' c3'
  have l1 := ni_length T
  have l2 := ni_length Bs
  have lT : (ni T).length ≤ 12 := by rw [l1]; omega
  have lB : (ni Bs).length ≤ 12 := by rw [l2]; omega
  have hL1 := As.mk l1
  have hL2 := As.mk l2
  rw [hN] at hk hBs hlow hC0 c0 ⊢
  have hlow' := As.mk hlow
  have HC0 := As.mk hC0
  have HS := As.mk hs
  have hkN := As.mk hk
  obtain ⟨R, hR⟩ : ∃ R, loopS (gF fs n) M k T (updN T Bs) = R := ⟨_, rfl⟩
  have HR := As.mk hR
  rw [hR]
  clear hR
  by_cases hgt : Bs.length < T.length
  case' pos =>
    have hgt' : ((ni Bs).length : Int) < ((ni T).length : Int) := by rw [l1, l2]; omega
    have HU := As.mk (show updN T Bs = T by unfold updN; rw [if_pos hgt])
    obtain ⟨g1, rfl⟩ := hO.addr (by rw [i64s_length, l1]; omega)
    clear l1 l2 hgt hC0 ih hT hlow hs S1 S2 hB hO hO2 htn hbn htb
    go_enter Try.func50, Try.ntmps50
    go_wp2_with (fail)
    go_quiet (fail)
    have HCd := As.mk (HC0.out.drewN nq)
    have bd : Below base w (w.drewN nq) := bl_drewN (Below.refl _ _) nq
    have hbW : base ≤ (w.drewN nq).heap.size := hbase
    clear c0 c2' c3' hbase
    generalize w.drewN nq = W at *
    have e2 := (HCd.out.blk.alloc (.cells #[] 2)).at 2
    have e3 := (HCd.out.blk.alloc (.cells #[] 2)).at 3
    simp only [List.getElem?_cons_zero, List.getElem?_cons_succ] at e2 e3
    have hOl := Own.lit W base 2 [] hbW (by simp)
    have hR := (HCd.out.own.alloc (.cells #[] 2)).range
    have bd1 : Below base w (W.alloc (.cells #[] 2)) := bd.alloc hbW _
    have hCW := As.mk HCd.out.blk.lt
    have hszW : (W.alloc (.cells #[] 2)).heap.size = W.heap.size + 1 := by simp
    go_wp2_with (at_builtin; refine appN (P := Try.prog) (w0 := w) (W := W.alloc (.cells #[] 2)) base rfl (.tmp 17) (.tmp 21) 24 2 (.int .i64 0) 8 rfl Try.underlying24 info_i64 rfl (by omega) (.slice (some ⟨W.heap.size, 0, none⟩) 0 0) [] (i64s (ni T)) g1 0 c1 (ni T).length rfl rfl (i64s_length _) (i64s_one _) hOl hR bd1 (by rw [hszW]; omega) (by simp; omega) ?_)
    intro v1 w2 hO1 hb2 hg2 hat
    have hO1 : Own w2 base 2 v1 (i64s (ni T)) := hO1
    have hq : As (∃ q, v1.ownBlock = some q ∧ W.heap.size ≤ q) := ⟨by
      rcases hat with e | ⟨q, e, hq⟩
      · exact ⟨W.heap.size, e, Nat.le_refl _⟩
      · exact ⟨q, e, by omega⟩⟩
    have hg2 : (W.alloc (.cells #[] 2)).grownBy w2 (some W.heap.size) := hg2
    have X2 := (HCd.out.blk.alloc (.cells #[] 2)).byGrown hg2 (by have := hCW.out; simp; omega)
    obtain ⟨u3, d3⟩ := X2.some 3 (by simp)
    have f3 := X2.frozen 3
    have HT2 := As.mk ((HCd.out.own.alloc (.cells #[] 2)).grown hg2 (.inr (by
      intro e
      have := HCd.out.own.lt _ e
      omega)))
    clear hat e2 e3 hOl hR bd1 hszW hg2
    obtain ⟨A3, c3, rfl, _⟩ := hO1.sl
    go_wp2_with (fail)
    have HC1 : As (∃ tv bv, Cho (w2.setCell ⟨C, 3, none⟩ (Value.slice A3 (ni T).length c3)) base C A N c n T (updN T Bs) tv bv) := ⟨⟨_, Value.slice A3 (ni T).length c3, by
      obtain ⟨q, e, hqW⟩ := hq.out
      have hCq : (Value.slice A3 (ni T).length c3).ownBlock ≠ some C := by
        intro e'
        rw [e] at e'
        have := hCW.out
        injection e' with e'
        omega
      refine ⟨?_, HT2.out.far HCd.out.tne _, ?_, HCd.out.low, HCd.out.tne, hCq, ?_⟩
      · have := X2.set 3 (Value.slice A3 (ni T).length c3)
        simpa using this
      · rw [HU.out]; exact Own.far hO1 hCq _
      · right
        rw [e]
        intro e'
        have := HCd.out.own.lt _ e'
        omega⟩⟩
    have b1 : Below base w (w2.setCell ⟨C, 3, none⟩ (Value.slice A3 (ni T).length c3)) := hb2.setCell hl0 _
    clear X2 d3 f3 HT2 hO1 hb2 hq
    generalize w2.setCell ⟨C, 3, none⟩ (Value.slice A3 (ni T).length c3) = W1 at *
    clear HU hCW bd hbW HCd hgt' HC0
  case' neg =>
    have hgd : decide ((ni Bs).length < (ni T).length) = false := decide_eq_false (by rw [l1, l2]; omega)
    have hgt' : ¬ (((ni Bs).length : Int) < ((ni T).length : Int)) := by rw [l1, l2]; omega
    have HU := As.mk (show updN T Bs = Bs by unfold updN; rw [if_neg hgt])
    clear l1 l2 hgt hC0 ih hT hlow hs S1 S2 hB hO hO2 htn hbn htb
    go_enter Try.func50, Try.ntmps50
    go_wp2_with (fail)
    go_quiet (fail)
    have HC1 : As (∃ tv bv, Cho (w.drewN nq) base C A N c n T (updN T Bs) tv bv) := ⟨⟨_, _, by rw [HU.out]; exact HC0.out.drewN nq⟩⟩
    have b1 : Below base w (w.drewN nq) := bl_drewN (Below.refl _ _) nq
    clear c0 c2' c3' hbase
    generalize w.drewN nq = W1 at *
    go_wp2_with (fail)
    try simp only [hgd]
    clear HU hgt' hgd HC0
  all_goals
    have hkf := fun (l : List Int) hl A' c' (i : Nat) hi W h h' => l01Fits_any fs hv (by omega) A c l hl A' c' i hi n W h h'
    have hkf' := As.mk hkf
    clear hkf hv
    go_loopw [4] (fun v wr => ∃ j : Nat, k ≤ j ∧ j ≤ N ∧ v = .int .i64 j ∧ As (∃ tv bv B', Cho wr base C A N c n T B' tv bv ∧ B'.length ≤ N ∧ loopS (gF fs n) (N - j) j T B' = R) ∧ Below base w wr) (fun v _ => N - (intOf v).toNat)
    case atStart =>
      refine ⟨k, Nat.le_refl _, by have := hkN.out; omega, rfl, ⟨?_⟩, b1⟩
      obtain ⟨tv, bv, h⟩ := HC1.out
      exact ⟨tv, bv, _, h, upd_length (by have := hkN.out; omega) hBs, by rw [← HR.out]; congr 1; have := hkN.out; omega⟩
    case round =>
      obtain ⟨j, hkj, hjN, rfl, HE, hb⟩ := hrel
      clear HC1 b1
      obtain ⟨tv, bv, B', hC, hB', hE⟩ := HE.out
      clear HE
      have HE := As.mk hE
      have HC := As.mk hC
      clear hE
      obtain ⟨hB, hO, hO2, hl0, htn, hbn, htb⟩ := hC
      obtain ⟨A1, c1, rfl, S1⟩ := hO.sl
      have c0 := hB.at 0
      simp only [List.getElem?_cons_zero, List.getElem?_cons_succ] at c0
      by_cases hlt : j < N
      · have hlt' : (j : Int) < (N : Int) := by omega
        have d0 := hB.at 1
        have d1 := hB.at 2
        simp only [List.getElem?_cons_zero, List.getElem?_cons_succ] at d0 d1
        have hjf : j < fs.length := by rw [HM.out]; exact hlt
        have hsW : SlF wr A fs := HS.out.keptB hb (fun b o e hp => hlow'.out b o e (by rw [← HM.out]; exact hp))
        have kf := fun W h h' => hkf'.out (ni T) (fun x hx => by
          obtain ⟨y, hy, rfl⟩ := List.mem_map.1 hx
          exact ⟨y, HT.out y hy, rfl⟩) A1 c1 j hjf W h h'
        rw [HM.out] at kf
        have kf2 := fun W (hW : Below wr.heap.size wr W) => kf W (hsW.kept hW) (S1.kept hW)
        rw [fits_eq] at kf2
        have S0 : Below wr.heap.size wr wr ∧ wr.cell? ⟨C, 0, none⟩ = some (.slice A N c) ∧ wr.cell? ⟨C, 1, none⟩ = some (.int .i64 n) ∧ wr.cell? ⟨C, 2, none⟩ = some (.slice A1 (ni T).length c1) := ⟨Below.refl _ _, c0, d0, d1⟩
        obtain ⟨mm, hmm⟩ : ∃ mm, N - j = mm + 1 := ⟨N - j - 1, by omega⟩
        have hm1 := As.mk (show N - (j + 1) = mm by omega)
        rw [hmm] at HE
        have hmM := As.mk (show mm < M by have := hkN.out; omega)
        clear kf hsW S1 d0 d1 hB hO hO2 htn hbn htb hmm
        cases hf : fitsN (gF fs n) T j
        · have hst := As.mk (loop_miss (m := mm) (B := B') hf)
          rw [hf] at kf2
          clear hf
          go_wp2_with (fail)
          refine wp_region_held_drew (S := (fun W => Below wr.heap.size wr W ∧ W.cell? ⟨C, 0, none⟩ = some (.slice A N c) ∧ W.cell? ⟨C, 1, none⟩ = some (.int .i64 n) ∧ W.cell? ⟨C, 2, none⟩ = some (.slice A1 (ni T).length c1))) (by kernel_rfl) ⟨S0.1.drew, S0.2.1, S0.2.2.1, S0.2.2.2⟩ (fun hHeld => ?_)
          (refine hTake 0 35 (v := .pointer (some ⟨C, 0, none⟩)) rfl rfl (by kernel_rfl) (by kernel_rfl) (by kernel_rfl) (fun _ _ _ h => h) (Or.inl ⟨by rfl, fun W _ => rfl⟩) hHeld ?_; simp only [List.set_cons_zero, List.set_cons_succ])
          (refine hTake 1 36 (v := .pointer (some ⟨C, 0, none⟩)) rfl rfl (by kernel_rfl) (by kernel_rfl) (by kernel_rfl) (fun _ _ _ h => h) (Or.inl ⟨by rfl, fun W _ => by go_simp⟩) hHeld ?_; simp only [List.set_cons_zero, List.set_cons_succ])
          (refine hTake 2 37 (v := .pointer (some ⟨C, 0, none⟩)) rfl rfl (by kernel_rfl) (by kernel_rfl) (by kernel_rfl) (fun _ _ _ h => h) (Or.inl ⟨by rfl, fun W _ => by go_simp⟩) hHeld ?_; simp only [List.set_cons_zero, List.set_cons_succ])
          (refine hTake 3 38 (v := .slice A N c) rfl rfl (by kernel_rfl) (by kernel_rfl) (by kernel_rfl) (fun _ _ _ h => h) (Or.inl ⟨by rfl, fun W h => by (have h1 := h.2.1; clear h; go_simp)⟩) hHeld ?_; simp only [List.set_cons_zero, List.set_cons_succ])
          (refine hTake 4 39 (v := .pointer (some ⟨C, 0, none⟩)) rfl rfl (by kernel_rfl) (by kernel_rfl) (by kernel_rfl) (fun _ _ _ h => h) (Or.inl ⟨by rfl, fun W _ => rfl⟩) hHeld ?_; simp only [List.set_cons_zero, List.set_cons_succ])
          (refine hTake 5 40 (v := .pointer (some ⟨C, 0, none⟩)) rfl rfl (by kernel_rfl) (by kernel_rfl) (by kernel_rfl) (fun _ _ _ h => h) (Or.inl ⟨by rfl, fun W _ => by go_simp⟩) hHeld ?_; simp only [List.set_cons_zero, List.set_cons_succ])
          (refine hTake 6 41 (v := .pointer (some ⟨C, 2, none⟩)) rfl rfl (by kernel_rfl) (by kernel_rfl) (by kernel_rfl) (fun _ _ _ h => h) (Or.inl ⟨by rfl, fun W _ => by go_simp⟩) hHeld ?_; simp only [List.set_cons_zero, List.set_cons_succ])
          (refine hTake 7 42 (v := .slice A1 (ni T).length c1) rfl rfl (by kernel_rfl) (by kernel_rfl) (by kernel_rfl) (fun _ _ _ h => h) (Or.inl ⟨by rfl, fun W h => by (have h1 := h.2.2.2; clear h; go_simp)⟩) hHeld ?_; simp only [List.set_cons_zero, List.set_cons_succ])
          (refine hTake 8 43 (v := .int .i64 (j : Int)) rfl rfl (by kernel_rfl) (by kernel_rfl) (by kernel_rfl) (fun _ _ _ h => h) (Or.inl ⟨by rfl, fun W _ => rfl⟩) hHeld ?_; simp only [List.set_cons_zero, List.set_cons_succ])
          (refine hTake 9 44 (v := .pointer (some ⟨C, 0, none⟩)) rfl rfl (by kernel_rfl) (by kernel_rfl) (by kernel_rfl) (fun _ _ _ h => h) (Or.inl ⟨by rfl, fun W _ => rfl⟩) hHeld ?_; simp only [List.set_cons_zero, List.set_cons_succ])
          (refine hTake 10 45 (v := .pointer (some ⟨C, 0, none⟩)) rfl rfl (by kernel_rfl) (by kernel_rfl) (by kernel_rfl) (fun _ _ _ h => h) (Or.inl ⟨by rfl, fun W _ => by go_simp⟩) hHeld ?_; simp only [List.set_cons_zero, List.set_cons_succ])
          (refine hTake 11 46 (v := .pointer (some ⟨C, 1, none⟩)) rfl rfl (by kernel_rfl) (by kernel_rfl) (by kernel_rfl) (fun _ _ _ h => h) (Or.inl ⟨by rfl, fun W _ => by go_simp⟩) hHeld ?_; simp only [List.set_cons_zero, List.set_cons_succ])
          (refine hTake 12 47 (v := .int .i64 n) rfl rfl (by kernel_rfl) (by kernel_rfl) (by kernel_rfl) (fun _ _ _ h => h) (Or.inl ⟨by rfl, fun W h => by (have h1 := h.2.2.1; clear h; go_simp)⟩) hHeld ?_; simp only [List.set_cons_zero, List.set_cons_succ])
          refine hCall 13 48 43 rfl rfl (by kernel_rfl) (args := #[.slice A N c, .slice A1 (ni T).length c1, .int .i64 (j : Int), .int .i64 n]) (by rfl) (by go_simp) (.bool false) (kf2 _ hHeld.1) (fun wq hq => ⟨keepC hHeld hq, ?_⟩)
          simp only [List.set_cons_zero, List.set_cons_succ]
          replace hHeld := keepC hHeld hq
          (refine hTake 14 49 (v := .bool true) rfl rfl (by kernel_rfl) (by kernel_rfl) (by kernel_rfl) (fun _ _ _ h => h) (Or.inl ⟨by rfl, fun W _ => by go_simp⟩) hHeld ?_; simp only [List.set_cons_zero, List.set_cons_succ])
          refine wpAnyH_done (by kernel_rfl) ?_ _
          have hbz : base ≤ wr.heap.size := Nat.le_trans HC.out.low (Nat.le_of_lt HC.out.blk.lt)
          have hbq : Below base w wq := hb.trans (hHeld.1.mono hbz)
          have HCq := As.mk (HC.out.kept hHeld.1)
          have hqz : base ≤ wq.heap.size := Nat.le_trans hbz hHeld.1.size
          clear kf2 hq S0 HC
          clear hHeld
          go_wp2_with (fail)
          go_roundw
          case rel => exact ⟨j + 1, by omega, by omega, by go_num, ⟨⟨_, _, B', HCq.out, hB', by rw [hm1.out, ← hst.out]; exact HE.out⟩⟩, hbq⟩
          case measure => simp [intOf]; omega
        · have hst := As.mk (loop_hit (m := mm) (B := B') hf)
          rw [hf] at kf2
          clear hf
          go_wp2_with (fail)
          refine wp_region_held_drew (S := (fun W => Below wr.heap.size wr W ∧ W.cell? ⟨C, 0, none⟩ = some (.slice A N c) ∧ W.cell? ⟨C, 1, none⟩ = some (.int .i64 n) ∧ W.cell? ⟨C, 2, none⟩ = some (.slice A1 (ni T).length c1))) (by kernel_rfl) ⟨S0.1.drew, S0.2.1, S0.2.2.1, S0.2.2.2⟩ (fun hHeld => ?_)
          (refine hTake 0 35 (v := .pointer (some ⟨C, 0, none⟩)) rfl rfl (by kernel_rfl) (by kernel_rfl) (by kernel_rfl) (fun _ _ _ h => h) (Or.inl ⟨by rfl, fun W _ => rfl⟩) hHeld ?_; simp only [List.set_cons_zero, List.set_cons_succ])
          (refine hTake 1 36 (v := .pointer (some ⟨C, 0, none⟩)) rfl rfl (by kernel_rfl) (by kernel_rfl) (by kernel_rfl) (fun _ _ _ h => h) (Or.inl ⟨by rfl, fun W _ => by go_simp⟩) hHeld ?_; simp only [List.set_cons_zero, List.set_cons_succ])
          (refine hTake 2 37 (v := .pointer (some ⟨C, 0, none⟩)) rfl rfl (by kernel_rfl) (by kernel_rfl) (by kernel_rfl) (fun _ _ _ h => h) (Or.inl ⟨by rfl, fun W _ => by go_simp⟩) hHeld ?_; simp only [List.set_cons_zero, List.set_cons_succ])
          (refine hTake 3 38 (v := .slice A N c) rfl rfl (by kernel_rfl) (by kernel_rfl) (by kernel_rfl) (fun _ _ _ h => h) (Or.inl ⟨by rfl, fun W h => by (have h1 := h.2.1; clear h; go_simp)⟩) hHeld ?_; simp only [List.set_cons_zero, List.set_cons_succ])
          (refine hTake 4 39 (v := .pointer (some ⟨C, 0, none⟩)) rfl rfl (by kernel_rfl) (by kernel_rfl) (by kernel_rfl) (fun _ _ _ h => h) (Or.inl ⟨by rfl, fun W _ => rfl⟩) hHeld ?_; simp only [List.set_cons_zero, List.set_cons_succ])
          (refine hTake 5 40 (v := .pointer (some ⟨C, 0, none⟩)) rfl rfl (by kernel_rfl) (by kernel_rfl) (by kernel_rfl) (fun _ _ _ h => h) (Or.inl ⟨by rfl, fun W _ => by go_simp⟩) hHeld ?_; simp only [List.set_cons_zero, List.set_cons_succ])
          (refine hTake 6 41 (v := .pointer (some ⟨C, 2, none⟩)) rfl rfl (by kernel_rfl) (by kernel_rfl) (by kernel_rfl) (fun _ _ _ h => h) (Or.inl ⟨by rfl, fun W _ => by go_simp⟩) hHeld ?_; simp only [List.set_cons_zero, List.set_cons_succ])
          (refine hTake 7 42 (v := .slice A1 (ni T).length c1) rfl rfl (by kernel_rfl) (by kernel_rfl) (by kernel_rfl) (fun _ _ _ h => h) (Or.inl ⟨by rfl, fun W h => by (have h1 := h.2.2.2; clear h; go_simp)⟩) hHeld ?_; simp only [List.set_cons_zero, List.set_cons_succ])
          (refine hTake 8 43 (v := .int .i64 (j : Int)) rfl rfl (by kernel_rfl) (by kernel_rfl) (by kernel_rfl) (fun _ _ _ h => h) (Or.inl ⟨by rfl, fun W _ => rfl⟩) hHeld ?_; simp only [List.set_cons_zero, List.set_cons_succ])
          (refine hTake 9 44 (v := .pointer (some ⟨C, 0, none⟩)) rfl rfl (by kernel_rfl) (by kernel_rfl) (by kernel_rfl) (fun _ _ _ h => h) (Or.inl ⟨by rfl, fun W _ => rfl⟩) hHeld ?_; simp only [List.set_cons_zero, List.set_cons_succ])
          (refine hTake 10 45 (v := .pointer (some ⟨C, 0, none⟩)) rfl rfl (by kernel_rfl) (by kernel_rfl) (by kernel_rfl) (fun _ _ _ h => h) (Or.inl ⟨by rfl, fun W _ => by go_simp⟩) hHeld ?_; simp only [List.set_cons_zero, List.set_cons_succ])
          (refine hTake 11 46 (v := .pointer (some ⟨C, 1, none⟩)) rfl rfl (by kernel_rfl) (by kernel_rfl) (by kernel_rfl) (fun _ _ _ h => h) (Or.inl ⟨by rfl, fun W _ => by go_simp⟩) hHeld ?_; simp only [List.set_cons_zero, List.set_cons_succ])
          (refine hTake 12 47 (v := .int .i64 n) rfl rfl (by kernel_rfl) (by kernel_rfl) (by kernel_rfl) (fun _ _ _ h => h) (Or.inl ⟨by rfl, fun W h => by (have h1 := h.2.2.1; clear h; go_simp)⟩) hHeld ?_; simp only [List.set_cons_zero, List.set_cons_succ])
          refine hCall 13 48 43 rfl rfl (by kernel_rfl) (args := #[.slice A N c, .slice A1 (ni T).length c1, .int .i64 (j : Int), .int .i64 n]) (by rfl) (by go_simp) (.bool true) (kf2 _ hHeld.1) (fun wq hq => ⟨keepC hHeld hq, ?_⟩)
          simp only [List.set_cons_zero, List.set_cons_succ]
          replace hHeld := keepC hHeld hq
          (refine hTake 14 49 (v := .bool false) rfl rfl (by kernel_rfl) (by kernel_rfl) (by kernel_rfl) (fun _ _ _ h => h) (Or.inl ⟨by rfl, fun W _ => by go_simp⟩) hHeld ?_; simp only [List.set_cons_zero, List.set_cons_succ])
          refine wpAnyH_done (by kernel_rfl) ?_ _
          have hbz : base ≤ wr.heap.size := Nat.le_trans HC.out.low (Nat.le_of_lt HC.out.blk.lt)
          have hbq : Below base w wq := hb.trans (hHeld.1.mono hbz)
          have HCq := As.mk (HC.out.kept hHeld.1)
          have hqz : base ≤ wq.heap.size := Nat.le_trans hbz hHeld.1.size
          clear kf2 hq S0 HC
          have hOq := HCq.out.own
          have lT' : (i64s (ni T)).length ≤ 12 := by rw [i64s_length]; exact lT
          have c2q := hHeld.2.2.2
          clear hHeld
          go_wp2_with (at_builtin; refine app1 (P := Try.prog) (w0 := w) (W := wq) base rfl (.tmp 54) (.tmp 56) 24 2 (.int .i64 0) 8 rfl Try.underlying24 info_i64 rfl (by omega) (.slice A1 (ni T).length c1) (i64s (ni T)) (.int .i64 (j : Int)) rfl rfl rfl hOq hbq hqz (by omega) ?_)
          intro v1 w2 hO1 hb2 hg2 hat
          have hO1 : Own w2 base 2 v1 (i64s (ni (T ++ [j]))) := by rw [← ni_snoc, ← i64_snoc]; exact hO1
          have hbo : HCq.out.best = HCq.out.best := rfl
          have hcq : C < wq.heap.size := HCq.out.blk.lt
          have hv1 : v1.ownBlock ≠ some C := by
            rcases hat with e | ⟨q, e, hq⟩
            · rw [e]; exact HCq.out.tne
            · rw [e]; intro e'; injection e' with e'; omega
          have htb1 : v1.ownBlock = none ∨ v1.ownBlock ≠ bv.ownBlock := by
            rcases hat with e | ⟨q, e, hq⟩
            · rw [e]; exact HCq.out.tb
            · right; rw [e]; intro e'
              have := HCq.out.best.lt _ e'.symm
              omega
          have hB2 := HCq.out.best.grown hg2 (by
            rcases HCq.out.tb with e | e
            · rw [e]
              cases hbv : bv.ownBlock
              · exact .inl rfl
              · exact .inr (by simp)
            · exact .inr e.symm)
          have X2 := HCq.out.blk.byGrown hg2 HCq.out.tne
          obtain ⟨u3, d3⟩ := X2.some 2 (by simp)
          have f3 := X2.frozen 2
          obtain ⟨A3, c3, rfl, _⟩ := hO1.sl
          have hC3 : As (Cho (w2.setCell ⟨C, 2, none⟩ (Value.slice A3 (ni (T ++ [j])).length c3)) base C A N c n (T ++ [j]) B' (Value.slice A3 (ni (T ++ [j])).length c3) bv) := ⟨by
            refine ⟨?_, hO1.far hv1 _, hB2.far HCq.out.bne _, HCq.out.low, hv1, HCq.out.bne, htb1⟩
            have := X2.set 2 (Value.slice A3 (ni (T ++ [j])).length c3)
            simpa using this⟩
          have b3 : Below base w (w2.setCell ⟨C, 2, none⟩ (Value.slice A3 (ni (T ++ [j])).length c3)) := hb2.setCell HCq.out.low _
          have kIH := ih'.out mm hmM.out
          unfold FromOk at kIH
          simp only [HM.out] at kIH
          have hs3 : SlF (w2.setCell ⟨C, 2, none⟩ (Value.slice A3 (ni (T ++ [j])).length c3)) A fs := HS.out.keptB b3 (fun b o e hp => hlow'.out b o e (by rw [← HM.out]; exact hp))
          have key := kIH (j + 1) (T ++ [j]) B' _ _ _ base C (by have := hm1.out; omega) (fun x hx => by
            rcases List.mem_append.1 hx with hx | hx
            · have := HT.out x hx; rw [HM.out] at this; exact this
            · simp at hx; subst hx; exact hlt) (by simp; omega) hB' hs3 hlow'.out hC3.out
          have hst2 := As.mk (hst.out.symm.trans HE.out)
          have hc3z : base ≤ (w2.setCell ⟨C, 2, none⟩ (Value.slice A3 (ni (T ++ [j])).length c3)).heap.size := by
            have := hC3.out.blk.lt; have := hC3.out.low; omega
          clear kIH hs3 hO1 hbo hv1 htb1 hB2 hat hg2 hb2 HE hst hOq lT' c2q ih'
          rw [show (((j + 1 : Nat)) : Int) = (j : Int) + 1 by omega] at key
          go_wp2_with (fail)
          refine key.mono ?_; rintro e w4 ⟨rfl, ⟨tv4, bv4, hC4⟩, hb4⟩
          have b4 : Below base w w4 := b3.trans (hb4.mono (Nat.le_refl _))
          clear key X2 d3 f3 b3 hc3z hC3
          obtain ⟨A4, c4, rfl, _⟩ := hC4.own.sl
          obtain ⟨g4, rfl⟩ := hC4.own.addr (by rw [i64s_length, ni_length]; simp)
          have hz1 : (ni (T ++ [j])).length = (ni T).length + 1 := by rw [ni_length, ni_length]; simp
          rw [hz1] at hC4
          have hcp := hC4.own.cap'
          rw [i64s_length, hz1] at hcp
          have HC4 := As.mk hC4
          have d4 := hC4.blk.at 2
          simp only [List.getElem?_cons_zero, List.getElem?_cons_succ] at d4
          have f4 := hC4.blk.frozen 2
          obtain ⟨z, hz⟩ : ∃ z, (ni T).length = z := ⟨_, rfl⟩
          have HZ := As.mk hz
          rw [hz] at d4 hcp lT
          have hq1 : ((z : Int) + 1) - 1 = (z : Int) := by omega
          have hq2 : (0 : Int) ≤ (z : Int) := by omega
          have hq3 : (z : Int) ≤ (c4 : Int) := by omega
          have hq4 : IntKind.i64.wrap (z : Int) = (z : Int) := by simp [IntKind.wrap, IntKind.bits, IntKind.signed]; omega
          clear hC4 hz hz1
          go_wp2_with (fail)
          go_still_tail 14, (by kernel_rfl)
          change wpList _ _ _ _ _ w4.drew
          have HC5 := As.mk HC4.out.drew
          have b5 : Below base w w4.drew := bl_drew b4
          have d5 : w4.drew.cell? ⟨C, 2, none⟩ = some (Value.slice (some ⟨g4, 0, none⟩) (z + 1) c4) := d4
          have f5 : w4.drew.frozen? ⟨C, 2, none⟩ = false := f4
          clear HC4 b4 d4 f4
          generalize w4.drew = w5 at *
          go_wp2_with (fail)
          clear hq1 hq2 hq3 hq4 d5 f5
          have HC6 : As (Cho (w5.setCell ⟨C, 2, none⟩ (Value.slice (some ⟨g4, 0, none⟩) z c4)) base C A N c n T (loopS (gF fs n) mm (j + 1) (T ++ [j]) (updN (T ++ [j]) B')) (Value.slice (some ⟨g4, 0, none⟩) z c4) bv4) := ⟨by
            have h5 := HC5.out
            have hO5 := h5.own
            rw [← ni_snoc, ← i64_snoc] at hO5
            have hO6 := hO5.cut
            rw [i64s_length, HZ.out] at hO6
            have hB6 := h5.blk.set 2 (Value.slice (some ⟨g4, 0, none⟩) z c4)
            have ht : (Value.slice (some ⟨g4, 0, none⟩) z c4).ownBlock ≠ some C := h5.tne
            have htb : (Value.slice (some ⟨g4, 0, none⟩) z c4).ownBlock = none ∨ (Value.slice (some ⟨g4, 0, none⟩) z c4).ownBlock ≠ bv4.ownBlock := h5.tb
            exact ⟨hB6, hO6.far (p := ⟨C, 2, none⟩) ht _, h5.best.far h5.bne _, h5.low, ht, h5.bne, htb⟩⟩
          have b6 : Below base w (w5.setCell ⟨C, 2, none⟩ (Value.slice (some ⟨g4, 0, none⟩) z c4)) := b5.setCell HC5.out.low _
          have HLn := As.mk (show (loopS (gF fs n) mm (j + 1) (T ++ [j]) (updN (T ++ [j]) B')).length ≤ N from loopS_length _ mm (j + 1) _ _ N (by have := hm1.out; omega) (by simp; omega) (upd_length (by simp; omega) hB'))
          clear HC5 b5 hcp lT
          go_roundw
          case rel => exact ⟨j + 1, by omega, by omega, by go_num, ⟨⟨_, _, _, HC6.out, HLn.out, by rw [hm1.out]; exact hst2.out⟩⟩, b6⟩
          case measure => simp [intOf]; omega
      · obtain rfl : j = N := by omega
        have hE2 := HE.out
        rw [Nat.sub_self] at hE2
        have hE3 : B' = R := hE2
        subst hE3
        clear hE2 HE HR
        go_wp2_with (fail)
        refine bodyPost_end (results_none2 rfl _ _ _) rfl ⟨rfl, ⟨_, _, HC.out⟩, hb⟩
end Go.Proofs.Ytjppoejkfpeicaa

/- Contracts: MostDistinct (spec). -/
set_option linter.unusedVariables false
set_option linter.unusedSimpArgs false
namespace Go.Proofs.Ytjppoejkfpeicaa
open Go.RowKit

theorem from_any (fs : List (List Int)) (hv : vfs fs = true) (h12 : fs.length ≤ 12) (n : Int) (A : Option Addr) (c : Nat) (M : Nat) : FromOk fs n A c M := by
  induction M using Nat.strongRecOn with
  | ind M ih => exact from_step fs hv h12 n A c M ih
theorem most_le (fs : List (List Int)) (n : Int) : (mostL fs n).length ≤ 12 := by
  unfold mostL
  split
  · rename_i h
    rw [ni_length]
    exact Nat.le_trans (loopS_length _ fs.length 0 [] [] fs.length (by omega) (by simp) (by simp)) (most_ok h).2
  · simp

set_option maxRecDepth 100000 in
set_option maxHeartbeats 2000000 in
theorem sMostDistinct_any (fs : List (List Int)) (A : Option Addr) (c : Nat) (n : Int) (w : World) (hs : SlF w A fs) :
    Calls Try.prog 16 #[.slice A fs.length c, .int .i64 n] w fun e w' => Gave64 (mostL fs n) (mostC fs n) w.heap.size e w' ∧ Below w.heap.size w w' := by
  have k1 := l01Asked_any fs A c n w hs
  have HC := As.mk (show mostC fs n = first2 (askC fs n) (if fs.length ≤ 12 then 0 else 7) from rfl)
  by_cases ha : askC fs n = 0
  · obtain ⟨hv, h40⟩ := ask_ok ha
    by_cases h12 : fs.length ≤ 12
    · have h0 : mostC fs n = 0 := by rw [HC.out, ha, if_pos h12]; rfl
      have HL := As.mk (show mostL fs n = ni (loopS (gF fs n) fs.length 0 [] []) by unfold mostL; rw [if_pos h0])
      have hlow : ∀ b o, A = some ⟨b, o, none⟩ → 0 < fs.length → b < w.heap.size := by
        intro b o e hp
        obtain ⟨b', o', e', hr⟩ := hs.2.2.2 hp
        rw [e] at e'
        obtain ⟨rfl, rfl⟩ : b = b' ∧ o = o' := by simpa using e'
        have l0 := hs.len 0 hp
        exact World.block_lt_of_cell? w _ (hr 0 _ (nthF_get? fs 0 hp) 0 _ (u8s_get _ 0 (by rw [l0]; omega)))
      have kf := from_any fs hv h12 n A c fs.length
      unfold FromOk at kf
      rw [ha] at k1
      rw [h0]
      obtain ⟨m, hm⟩ : ∃ m, fs.length = m := ⟨_, rfl⟩
      have HM := As.mk hm
      have h12' : ¬ ((12 : Int) < (m : Int)) := by omega
      simp only [hm] at k1 kf hlow ⊢
      have hC : As (Cho ((w.alloc (.cells #[] 2)).alloc (.cells #[.slice A m c, .int .i64 n, .slice none 0 0, .slice (some ⟨w.heap.size, 0, none⟩) 0 0] 66)) w.heap.size (w.heap.size + 1) A m c n [] [] (.slice none 0 0) (.slice (some ⟨w.heap.size, 0, none⟩) 0 0)) :=
        ⟨⟨Blk.mk (w.alloc (.cells #[] 2)) [.slice A m c, .int .i64 n, .slice none 0 0, .slice (some ⟨w.heap.size, 0, none⟩) 0 0] 66 (by simp), Own.nil _ _ _, (Own.lit w w.heap.size 2 [] (Nat.le_refl _) (by simp)).alloc _, by omega, by simp [Value.ownBlock], by simp [Value.ownBlock], .inl rfl⟩⟩
      have b1 : Below w.heap.size w ((w.alloc (.cells #[] 2)).alloc (.cells #[.slice A m c, .int .i64 n, .slice none 0 0, .slice (some ⟨w.heap.size, 0, none⟩) 0 0] 66)) := bl_new (bl_new (Below.refl _ _) _) _
      have key := kf 0 [] [] _ _ _ _ _ (by omega) (fun x hx => by cases hx) (by simp) (by simp) (hs.kept b1) hlow hC.out
      clear kf hm ha h0 HC hlow
      go_enter Try.func16, Try.ntmps16
      go_wp2_with (go_at_call 42; refine (k1).mono ?_; rintro e w' ⟨rfl, rfl⟩)
      generalize (w.alloc (.cells #[] 2)).alloc (.cells #[.slice A m c, .int .i64 n, .slice none 0 0, .slice (some ⟨w.heap.size, 0, none⟩) 0 0] 66) = W1 at *
      refine key.mono ?_; rintro e w2 ⟨rfl, ⟨tv, bv, hC2⟩, hb2⟩
      clear key hC
      have hU : updN [] [] = ([] : List Nat) := rfl
      rw [hU] at hC2
      have hO2 := As.mk hC2.best
      obtain ⟨A2, c2, rfl, _⟩ := hC2.best.sl
      have d3 := hC2.blk.at 3
      simp only [List.getElem?_cons_zero, List.getElem?_cons_succ] at d3
      clear hC2
      go_wp2_with (fail)
      go_ret2
      exact ⟨⟨_, rfl, by rw [HL.out, HM.out]; exact hO2.out⟩, b1.trans hb2⟩
    · have h0 : mostC fs n = 7 := by rw [HC.out, ha, if_neg h12]; rfl
      have HL := As.mk (show mostL fs n = [] by unfold mostL; rw [if_neg (by rw [h0]; omega)])
      have h12' : (12 : Int) < (fs.length : Int) := by omega
      rw [ha] at k1
      rw [h0]
      go_enter Try.func16, Try.ntmps16
      go_wp2_with (go_at_call 42; refine (k1).mono ?_; rintro e w' ⟨rfl, rfl⟩)
      go_ret2
      exact ⟨⟨_, rfl, by rw [HL.out]; exact Own.lit w w.heap.size 2 [] (Nat.le_refl _) (by simp)⟩, bl_new (Below.refl _ _) _⟩
  · have h0 : mostC fs n = askC fs n := by rw [HC.out]; unfold first2; rw [if_neg ha]
    have HL := As.mk (show mostL fs n = [] by unfold mostL; rw [if_neg (by rw [h0]; exact ha)])
    rw [h0]
    generalize hcc : askC fs n = cc at *
    have h0' : (cc != 0) = true := by simp [ha]
    clear ha hcc h0 HC
    go_enter Try.func16, Try.ntmps16
    go_wp2_with (go_at_call 42; refine (k1).mono ?_; rintro e w' ⟨rfl, rfl⟩)
    go_ret2
    exact ⟨⟨_, rfl, by rw [HL.out]; exact Own.lit w w.heap.size 2 [] (Nat.le_refl _) (by simp)⟩, bl_new (Below.refl _ _) _⟩
end Go.Proofs.Ytjppoejkfpeicaa

/- Contracts: NearestPair, both sides. -/
set_option linter.unusedVariables false
set_option linter.unusedSimpArgs false
namespace Go.Proofs.Ytjppoejkfpeicaa
open Go.RowKit

theorem ask_zero (fs : List (List Int)) : askC fs 0 = setC fs := by
  unfold askC
  by_cases h : setC fs = 0
  · rw [if_pos h, h]; rfl
  · rw [if_neg h]
/-- The nearest pair of a set. -/
def nearR (fs : List (List Int)) : Int × Int × Int := if setC fs = 0 ∧ 2 ≤ fs.length then allN (farP fs) fs.length none3 fs.length else (0, 0, 0)
def nearC (fs : List (List Int)) : Int := if setC fs = 0 then (if 2 ≤ fs.length then 0 else 6) else setC fs
theorem ret_4 {a b c d : Int} {e : Ending} (h : e = .returned (.tuple #[.int .i64 a, .int .i64 b, .int .i64 c, .int .i64 d])) : e = .returned (.tuple #[.int .i64 a, .int .i64 b, .int .i64 c, .int .i64 d]) := h

set_option maxHeartbeats 1000000 in
theorem NearestPair_any (fs : List (List Int)) (A : Option Addr) (c : Nat) (w : World) (hs : SlF w A fs) :
    Calls Try.prog 39 #[.slice A fs.length c] w fun e w' => e = .returned (.tuple #[.int .i64 (nearR fs).1, .int .i64 (nearR fs).2.1, .int .i64 (nearR fs).2.2, .int .i64 (nearC fs)]) ∧ Below w.heap.size w w' := by
  have V0 : Blk (w.alloc (.cells #[.slice A fs.length c] 27)) w.heap.size [.slice A fs.length c] 27 := Blk.mk _ [_] _ rfl
  have b0 := bl_new (Below.refl _ w) (.cells #[.slice A fs.length c] 27)
  have hs1 := hs.kept b0
  have k1 := setCode_any fs A c 0 (w.alloc (.cells #[.slice A fs.length c] 27)) hs1
  rw [ask_zero] at k1
  have hbig := hs.1
  by_cases h0 : setC fs = 0
  · obtain ⟨hv, h40⟩ := ask_ok (fs := fs) (n := 0) (by rw [ask_zero]; exact h0)
    have hR : nearR fs = if 2 ≤ fs.length then allN (farP fs) fs.length none3 fs.length else (0, 0, 0) := by unfold nearR; simp [h0]
    have hC : nearC fs = if 2 ≤ fs.length then 0 else 6 := by unfold nearC; rw [if_pos h0]
    have hok := near_ok (farP fs) fs.length (fun x y _ _ => (farP_bd fs x y).1)
    have kn := fun (W : World) (hW : SlF W A fs) (hC : W.cell? ⟨w.heap.size, 0, none⟩ = some (.slice A fs.length c)) => nearest_any 78 #[.pointer (some ⟨w.heap.size, 0, none⟩)] (enters Try.func78 (by kernel_rfl) rfl) fs.length (by omega) (farP fs) W
      (fun W' i k hik hk hb => NearestPair1_any fs hv h40 A c w.heap.size i k hik hk W' (hW.kept hb) ((hb.cell (World.block_lt_of_cell? W _ hC)).trans hC))
    rw [h0] at k1
    rw [hok] at kn
    by_cases h2 : 2 ≤ fs.length
    · rw [if_pos h2] at hR hC
      rw [show decide (2 ≤ fs.length) = true by simp [h2]] at kn
      rw [hR, hC]
      clear hR hC h0 hok
      generalize (allN (farP fs) fs.length none3 fs.length).1 = ra at *
      generalize (allN (farP fs) fs.length none3 fs.length).2.1 = rb at *
      generalize (allN (farP fs) fs.length none3 fs.length).2.2 = rl at *
      go_enter Try.func39, Try.ntmps39
      have c0 := V0.at 0
      simp only [List.getElem?_cons_zero] at c0
      go_wp2_with (fail)
      refine (k1).mono ?_; rintro e w1 ⟨rfl, hb1⟩
      have V1 := V0.kept hb1
      have c1 := V1.at 0
      simp only [List.getElem?_cons_zero] at c1
      go_wp2_with (fail)
      refine (kn _ (hs1.kept hb1) c1).mono ?_; rintro e w2 ⟨rfl, hb2⟩
      go_wp2_with (fail)
      refine bodyPost_ret (results_tmp4 rfl _ _ _) rfl ?_
      exact ⟨rfl, bl_call (bl_call b0 hb1) hb2⟩
    · rw [if_neg h2] at hR hC
      rw [show decide (2 ≤ fs.length) = false by simp; omega] at kn
      rw [hR, hC]
      clear hR hC h0 hok
      generalize (allN (farP fs) fs.length none3 fs.length).1 = ra at *
      generalize (allN (farP fs) fs.length none3 fs.length).2.1 = rb at *
      generalize (allN (farP fs) fs.length none3 fs.length).2.2 = rl at *
      go_enter Try.func39, Try.ntmps39
      have c0 := V0.at 0
      simp only [List.getElem?_cons_zero] at c0
      go_wp2_with (fail)
      refine (k1).mono ?_; rintro e w1 ⟨rfl, hb1⟩
      have V1 := V0.kept hb1
      have c1 := V1.at 0
      simp only [List.getElem?_cons_zero] at c1
      go_wp2_with (fail)
      refine (kn _ (hs1.kept hb1) c1).mono ?_; rintro e w2 ⟨rfl, hb2⟩
      go_wp2_with (fail)
      refine bodyPost_ret (results_tmp4 rfl _ _ _) rfl ?_
      exact ⟨rfl, bl_call (bl_call b0 hb1) hb2⟩
  · have hR : nearR fs = (0, 0, 0) := by unfold nearR; simp [h0]
    have hC : nearC fs = setC fs := by unfold nearC; rw [if_neg h0]
    rw [hR, hC]
    generalize setC fs = cc at *
    have h0' : (cc != 0) = true := by simp [h0]
    clear h0 hR hC
    go_enter Try.func39, Try.ntmps39
    have c0 := V0.at 0
    simp only [List.getElem?_cons_zero] at c0
    go_wp2_with (fail)
    refine (k1).mono ?_; rintro e w1 ⟨rfl, hb1⟩
    go_wp2_with (fail)
    refine bodyPost_ret (results_tmp4 rfl _ _ _) rfl ?_
    exact ⟨rfl, bl_call b0 hb1⟩

set_option maxRecDepth 100000 in
set_option maxHeartbeats 2000000 in
theorem sNearestPair_any (fs : List (List Int)) (A : Option Addr) (c : Nat) (w : World) (hs : SlF w A fs) :
    Calls Try.prog 40 #[.slice A fs.length c] w fun e w' => e = .returned (.tuple #[.int .i64 (nearR fs).1, .int .i64 (nearR fs).2.1, .int .i64 (nearR fs).2.2, .int .i64 (nearC fs)]) ∧ Below w.heap.size w w' := by
  have k1 := l01Set_any fs A c w hs
  have hbig := hs.1
  by_cases h0 : setC fs = 0
  · obtain ⟨hv, h40⟩ := ask_ok (fs := fs) (n := 0) (by rw [ask_zero]; exact h0)
    have hR : nearR fs = if 2 ≤ fs.length then allN (farP fs) fs.length none3 fs.length else (0, 0, 0) := by unfold nearR; simp [h0]
    have hC : nearC fs = if 2 ≤ fs.length then 0 else 6 := by unfold nearC; rw [if_pos h0]
    rw [h0] at k1
    by_cases h2 : 2 ≤ fs.length
    · rw [if_pos h2] at hR hC
      have hd : ∀ x y, x < y → y < fs.length → 0 ≤ farP fs x y := fun x y _ _ => (farP_bd fs x y).1
      obtain ⟨m1, hm1⟩ : ∃ m1, fs.length = m1 + 1 := ⟨fs.length - 1, by omega⟩
      have hfirst := all_first (farP fs) fs.length (farP_bd fs 0 1).1 h2 m1
      rw [← hm1] at hfirst
      rw [hR, hC, hfirst]
      clear hR hC h0 hfirst hm1
      have hpos := all_pos (farP fs) fs.length hd (0, 1, farP fs 0 1) (farP_bd fs 0 1).1
      generalize hm : fs.length = m at *
      have HM := As.mk hm
      clear hm
      have h2' : (2 : Int) ≤ (m : Int) := by omega
      have HP := As.mk hpos
      have HD := As.mk hd
      clear hpos hd
      go_enter Try.func40, Try.ntmps40
      go_wp2_with (go_at_call 79; refine (k1).mono ?_; rintro e w' ⟨rfl, rfl⟩)
      obtain ⟨b, o, rfl, hr0⟩ := hs.2.2.2 (by rw [HM.out]; omega)
      have h0m : 0 < fs.length := by rw [HM.out]; omega
      have h1m : 1 < fs.length := by rw [HM.out]; omega
      have hz0 : (0 : Int) < (m : Int) := by omega
      have hz1 : (1 : Int) < (m : Int) := by omega
      have key := fun W h h' => l01Far_any (nthF fs 0) (nthF fs 1) (hs.len 0 h0m) (hs.len 1 h1m) (hs.bytes 0 h0m) (hs.bytes 1 h1m) (vfs_at hv 0 h0m) (vfs_at hv 1 h1m) b o b (o + 24) W h h'
      have S0 : Below w.heap.size w w ∧ w.rangeAt b o (u8s (nthF fs 0)) ∧ w.rangeAt b (o + 24) (u8s (nthF fs 1)) := ⟨Below.refl _ _, by have := hr0 0 _ (nthF_get? fs 0 h0m); simpa using this, by have := hr0 1 _ (nthF_get? fs 1 h1m); simpa using this⟩
      have HF0 := As.mk (show farP fs 0 1 = diffs (blurL (nthF fs 0)) (blurL (nthF fs 1)) 6 from rfl)
      generalize diffs (blurL (nthF fs 0)) (blurL (nthF fs 1)) 6 = d0 at *
      clear hr0
      refine wp_region_held_drew (S := (fun W => Below w.heap.size w W ∧ W.rangeAt b o (u8s (nthF fs 0)) ∧ W.rangeAt b (o + 24) (u8s (nthF fs 1)))) (by kernel_rfl) ⟨S0.1.drew, S0.2.1, S0.2.2⟩ (fun hHeld => ?_)
      (refine hTake 0 21 (v := .slice (some ⟨b, o, none⟩) m c) rfl rfl (by kernel_rfl) (by kernel_rfl) (by kernel_rfl) (fun _ _ _ h => h) (Or.inl ⟨by rfl, fun W _ => rfl⟩) hHeld ?_; simp only [List.set_cons_zero, List.set_cons_succ])
      (refine hTake 2 23 (v := .slice (some ⟨b, o, none⟩) m c) rfl rfl (by kernel_rfl) (by kernel_rfl) (by kernel_rfl) (fun _ _ _ h => h) (Or.inl ⟨by rfl, fun W _ => rfl⟩) hHeld ?_; simp only [List.set_cons_zero, List.set_cons_succ])
      have hm0 : ¬ m = 0 := by omega
      (refine hTake 1 22 (v := .pointer (some ⟨b, o, none⟩)) rfl rfl (by kernel_rfl) (by kernel_rfl) (by kernel_rfl) (fun _ _ _ h => h) (Or.inl ⟨by rfl, fun W h => by (clear h; go_simp; try exact fun h => absurd h hm0)⟩) hHeld ?_; simp only [List.set_cons_zero, List.set_cons_succ])
      (refine hTake 3 24 (v := .pointer (some ⟨b, o + 24, none⟩)) rfl rfl (by kernel_rfl) (by kernel_rfl) (by kernel_rfl) (fun _ _ _ h => h) (Or.inl ⟨by rfl, fun W _ => by go_simp⟩) hHeld ?_; simp only [List.set_cons_zero, List.set_cons_succ])
      refine hCall 4 25 80 rfl rfl (by kernel_rfl) (args := #[.pointer (some ⟨b, o, none⟩), .pointer (some ⟨b, o + 24, none⟩)]) (by rfl) (by go_simp) (.int .i64 d0) (key _ hHeld.2.1 hHeld.2.2) (fun wq hq => ⟨keepR hHeld hq, ?_⟩)
      simp only [List.set_cons_zero, List.set_cons_succ]
      replace hHeld := keepR hHeld hq
      (refine hTake 5 9 (v := .int .i64 d0) rfl rfl (by kernel_rfl) (by kernel_rfl) (by kernel_rfl) (fun _ _ _ h => h) (Or.inl ⟨by rfl, fun W _ => rfl⟩) hHeld ?_; simp only [List.set_cons_zero, List.set_cons_succ])
      refine wpAnyH_done (by kernel_rfl) ?_ _
      have hb0 := hHeld.1
      clear S0 key hHeld hq k1
      go_wp2
      go_loopw [7, 8, 9, 10] (fun va vb vl vi wr => ∃ i : Nat, i ≤ m ∧ vi = .int .i64 i ∧ va = .int .i64 (allN (farP fs) m (0, 1, farP fs 0 1) i).1 ∧ vb = .int .i64 (allN (farP fs) m (0, 1, farP fs 0 1) i).2.1 ∧ vl = .int .i64 (allN (farP fs) m (0, 1, farP fs 0 1) i).2.2 ∧ Below w.heap.size w wr) (fun _ _ _ vi _ => m - (intOf vi).toNat)
      case atStart => exact ⟨0, by omega, rfl, rfl, rfl, by rw [← HF0.out]; rfl, hb0⟩
      case round =>
        obtain ⟨i, hi, rfl, rfl, rfl, rfl, hb⟩ := hrel
        clear hb0
        by_cases hlt : i < m
        · have hlt' : (i : Int) < (m : Int) := by omega
          have hS := As.mk (show allN (farP fs) m (0, 1, farP fs 0 1) (i + 1) = rowN (farP fs) i (m - (i + 1)) (allN (farP fs) m (0, 1, farP fs 0 1) i) from rfl)
          have hs0 := As.mk (HP.out i hi)
          generalize allN (farP fs) m (0, 1, farP fs 0 1) i = s0 at *
          go_wp2
          go_loopw [7, 8, 9, 11] (fun va vb vl vk wr => ∃ j : Nat, i + 1 + j ≤ m ∧ vk = .int .i64 ((i + 1 + j : Nat) : Int) ∧ va = .int .i64 (rowN (farP fs) i j s0).1 ∧ vb = .int .i64 (rowN (farP fs) i j s0).2.1 ∧ vl = .int .i64 (rowN (farP fs) i j s0).2.2 ∧ Below w.heap.size w wr) (fun _ _ _ vk _ => m - (intOf vk).toNat)
          case atStart => exact ⟨0, by omega, by simp, rfl, rfl, rfl, hb⟩
          case round =>
            obtain ⟨j, hj, rfl, rfl, rfl, rfl, hb⟩ := hrel
            have hR := As.mk (show rowN (farP fs) i (j + 1) s0 = stepN (farP fs) i (i + 1 + j) (rowN (farP fs) i j s0) from rfl)
            by_cases hlt2 : i + 1 + j < m
            · have hpos := row_pos (farP fs) m i HD.out s0 hs0.out j hj
              have hT := As.mk (show stepN (farP fs) i (i + 1 + j) (rowN (farP fs) i j s0) = if (rowN (farP fs) i j s0).2.2 < 0 ∨ farP fs i (i + 1 + j) < (rowN (farP fs) i j s0).2.2 then ((i : Int), ((i + 1 + j : Nat) : Int), farP fs i (i + 1 + j)) else rowN (farP fs) i j s0 from rfl)
              generalize hk : i + 1 + j = k at *
              generalize rowN (farP fs) i j s0 = s at *
              have hlt3 : (k : Int) < (m : Int) := by omega
              have hsW := hs.kept hb
              have him : i < fs.length := by rw [HM.out]; omega
              have hkm : k < fs.length := by rw [HM.out]; omega
              obtain ⟨b', o', hbo, hr⟩ := hsW.2.2.2 (by omega)
              obtain ⟨rfl, rfl⟩ : b = b' ∧ o = o' := by cases hbo; exact ⟨rfl, rfl⟩
              have key := fun W h h' => l01Far_any (nthF fs i) (nthF fs k) (hs.len i him) (hs.len k hkm) (hs.bytes i him) (hs.bytes k hkm) (vfs_at hv i him) (vfs_at hv k hkm) b (o + i * 24) b (o + k * 24) W h h'
              have S0 : Below w.heap.size w wr ∧ wr.rangeAt b (o + i * 24) (u8s (nthF fs i)) ∧ wr.rangeAt b (o + k * 24) (u8s (nthF fs k)) := ⟨hb, hr i _ (nthF_get? fs i him), hr k _ (nthF_get? fs k hkm)⟩
              have HF : farP fs i k = diffs (blurL (nthF fs i)) (blurL (nthF fs k)) 6 := rfl
              rw [HF] at hT
              generalize diffs (blurL (nthF fs i)) (blurL (nthF fs k)) 6 = dd at *
              clear hr hsW hkm him hbo HF
              generalize nthF fs i = fi at *
              generalize nthF fs k = fk at *
              go_wp2_with (fail)
              refine wp_region_held_drew (S := (fun W => Below w.heap.size w W ∧ W.rangeAt b (o + i * 24) (u8s fi) ∧ W.rangeAt b (o + k * 24) (u8s fk))) (by kernel_rfl) ⟨S0.1.drew, S0.2.1, S0.2.2⟩ (fun hHeld => ?_)
              (refine hTake 0 40 (v := .slice (some ⟨b, o, none⟩) m c) rfl rfl (by kernel_rfl) (by kernel_rfl) (by kernel_rfl) (fun _ _ _ h => h) (Or.inl ⟨by rfl, fun W _ => rfl⟩) hHeld ?_; simp only [List.set_cons_zero, List.set_cons_succ])
              (refine hTake 1 41 (v := .int .i64 (i : Int)) rfl rfl (by kernel_rfl) (by kernel_rfl) (by kernel_rfl) (fun _ _ _ h => h) (Or.inl ⟨by rfl, fun W _ => rfl⟩) hHeld ?_; simp only [List.set_cons_zero, List.set_cons_succ])
              (refine hTake 3 43 (v := .slice (some ⟨b, o, none⟩) m c) rfl rfl (by kernel_rfl) (by kernel_rfl) (by kernel_rfl) (fun _ _ _ h => h) (Or.inl ⟨by rfl, fun W _ => rfl⟩) hHeld ?_; simp only [List.set_cons_zero, List.set_cons_succ])
              (refine hTake 4 44 (v := .int .i64 (k : Int)) rfl rfl (by kernel_rfl) (by kernel_rfl) (by kernel_rfl) (fun _ _ _ h => h) (Or.inl ⟨by rfl, fun W _ => rfl⟩) hHeld ?_; simp only [List.set_cons_zero, List.set_cons_succ])
              (refine hTake 2 42 (v := .pointer (some ⟨b, o + i * 24, none⟩)) rfl rfl (by kernel_rfl) (by kernel_rfl) (by kernel_rfl) (fun _ _ _ h => h) (Or.inl ⟨by rfl, fun W _ => by go_simp⟩) hHeld ?_; simp only [List.set_cons_zero, List.set_cons_succ])
              (refine hTake 5 45 (v := .pointer (some ⟨b, o + k * 24, none⟩)) rfl rfl (by kernel_rfl) (by kernel_rfl) (by kernel_rfl) (fun _ _ _ h => h) (Or.inl ⟨by rfl, fun W _ => by go_simp⟩) hHeld ?_; simp only [List.set_cons_zero, List.set_cons_succ])
              refine hCall 6 46 80 rfl rfl (by kernel_rfl) (args := #[.pointer (some ⟨b, o + i * 24, none⟩), .pointer (some ⟨b, o + k * 24, none⟩)]) (by rfl) (by go_simp) (.int .i64 dd) (key _ hHeld.2.1 hHeld.2.2) (fun wq hq => ⟨keepR hHeld hq, ?_⟩)
              simp only [List.set_cons_zero, List.set_cons_succ]
              replace hHeld := keepR hHeld hq
              (refine hTake 7 12 (v := .int .i64 dd) rfl rfl (by kernel_rfl) (by kernel_rfl) (by kernel_rfl) (fun _ _ _ h => h) (Or.inl ⟨by rfl, fun W _ => rfl⟩) hHeld ?_; simp only [List.set_cons_zero, List.set_cons_succ])
              refine wpAnyH_done (by kernel_rfl) ?_ _
              have hb2 := hHeld.1
              clear hHeld hq key S0
              by_cases ht : dd < s.2.2
              · have hN : rowN (farP fs) i (j + 1) s0 = ((i : Int), ((k : Nat) : Int), dd) := by rw [hR.out, hT.out, if_pos (.inr ht)]
                go_wp2
                go_roundw
                case rel => exact ⟨j + 1, by omega, congrArg (Value.int IntKind.i64) (by omega), by rw [hN], by rw [hN], by rw [hN], hb2⟩
                case measure => simp [intOf]; omega
              · have hN : rowN (farP fs) i (j + 1) s0 = s := by rw [hR.out, hT.out, if_neg (by omega)]
                go_wp2
                go_roundw
                case rel => exact ⟨j + 1, by omega, congrArg (Value.int IntKind.i64) (by omega), by rw [hN], by rw [hN], by rw [hN], hb2⟩
                case measure => simp [intOf]; omega
            · have hj' : j = m - (i + 1) := by omega
              subst hj'
              rw [← hS.out]
              have e1 : ¬ ((i + 1 + (m - (i + 1)) : Nat) : Int) < (m : Int) := by omega
              go_wp2
              go_roundw
              case rel => exact ⟨i + 1, by omega, by go_num, rfl, rfl, rfl, hb⟩
              case measure => simp [intOf]; omega
        · obtain rfl : i = m := by omega
          go_wp2
          refine bodyPost_ret (results_tmp4 rfl _ _ _) rfl ?_
          exact ⟨rfl, hb⟩
    · rw [if_neg h2] at hR hC
      rw [hR, hC]
      clear hR hC h0
      have h2' : (fs.length : Int) < 2 := by omega
      go_enter Try.func40, Try.ntmps40
      go_wp2_with (go_at_call 79; refine (k1).mono ?_; rintro e w' ⟨rfl, rfl⟩)
      refine bodyPost_ret (results_tmp4 rfl _ _ _) rfl ?_
      exact ⟨rfl, Below.refl _ _⟩
  · have hR : nearR fs = (0, 0, 0) := by unfold nearR; simp [h0]
    have hC : nearC fs = setC fs := by unfold nearC; rw [if_neg h0]
    rw [hR, hC]
    generalize setC fs = cc at *
    have h0' : (cc != 0) = true := by simp [h0]
    clear h0 hR hC
    go_enter Try.func40, Try.ntmps40
    go_wp2_with (go_at_call 79; refine (k1).mono ?_; rintro e w' ⟨rfl, rfl⟩)
    refine bodyPost_ret (results_tmp4 rfl _ _ _) rfl ?_
    exact ⟨rfl, Below.refl _ _⟩
end Go.Proofs.Ytjppoejkfpeicaa
