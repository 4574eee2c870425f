/- Contracts: MostDistinct (spec): the search that goes down. -/
import Derived.Test.YtjppoejkfpeicaaMo
import Derived.Test.YtjppoejkfpeicaaG26
import Derived.Test.YtjppoejkfpeicaaOn
import Derived.StillTailTactics
set_option linter.unusedVariables false
set_option linter.unusedSimpArgs false
namespace Go.Proofs.Ytjppoejkfpeicaa
open Go.RowKit

theorem results_none2 {fn : Func} (h : fn.results = #[]) (tmps : Array Value) (P : Program) (w : World) : (results fn tmps).run P w = .ok (.tuple #[]) w := by simp [results, h]
theorem fits_eq (fs : List (List Int)) (n : Int) (T : List Nat) (i : Nat) : fitsB fs (ni T) i n = fitsN (gF fs n) T i := by
  unfold fitsB fitsN anyBelow
  rw [ni_length, Bool.eq_iff_iff]
  simp only [Bool.not_eq_true', List.any_eq_false, List.all_eq_true, List.mem_range]
  constructor
  · intro h y hy
    obtain ⟨j, hj, rfl⟩ := List.mem_iff_getElem.1 hy
    have := h j hj
    unfold tooNear at this
    rw [ni_nth T j hj, List.getD_eq_getElem?_getD, List.getElem?_eq_getElem hj] at this
    unfold gF
    simp at this ⊢
    exact this
  · intro h j hj
    have := h T[j] (List.getElem_mem hj)
    unfold tooNear
    rw [ni_nth T j hj, List.getD_eq_getElem?_getD, List.getElem?_eq_getElem hj]
    unfold gF at this
    simp at this ⊢
    exact this
theorem Blk.byGrown {w w' : World} {b : Nat} {cs : List Value} {t : TypeId} {row : Option Nat} (h : Blk w b cs t) (hg : w.grownBy w' row) (hne : row ≠ Option.some b) : Blk w' b cs t :=
  (hg.block b h.lt (fun e => hne e.symm)).trans h
theorem Own.cut {w : World} {base : Nat} {e : TypeId} {A : Option Addr} {n c : Nat} {cs : List Value} {y : Value} (h : Own w base e (.slice A n c) (cs ++ [y])) : Own w base e (.slice A cs.length c) cs := by
  obtain ⟨h1, h2⟩ := h
  rcases h2 with ⟨hv, hn⟩ | ⟨g, cap, cur, hv, hg, hh, r1, r2, r3⟩
  · simp at hn
  · obtain ⟨rfl, rfl, rfl⟩ : A = Option.some ⟨g, 0, none⟩ ∧ n = (cs ++ [y]).length ∧ c = cap := by simpa using hv
    refine ⟨by simp, .inr ⟨g, c, cur, rfl, hg, hh, by simp at r1; omega, r2, r3.1, ?_⟩⟩
    have h3 := congrArg (List.take cs.length) r3.2
    rw [List.take_take] at h3
    simpa using h3
theorem Own.cutBlock {A : Option Addr} {n m c : Nat} : (Value.slice A m c).ownBlock = (Value.slice A n c).ownBlock := by cases A <;> rfl

theorem Own.range {w : World} {base : Nat} {e : TypeId} {g n c : Nat} {cs : List Value} (h : Own w base e (.slice (some ⟨g, 0, none⟩) n c) cs) : w.rangeAt g 0 cs := by
  rcases h.form with ⟨hv, _⟩ | ⟨g', c', hv, _, _, hr, _⟩
  · cases hv
  · obtain ⟨rfl, _⟩ : g = g' ∧ c = c' := by simp at hv; exact ⟨hv.1, hv.2.2⟩
    exact hr
theorem SlF.keptB {w w' : World} {base : Nat} {A : Option Addr} {fs : List (List Int)} (h : SlF w A fs) (hb : Below base w w') (hlow : ∀ b o, A = some ⟨b, o, none⟩ → 0 < fs.length → b < base) : SlF w' A fs :=
  ⟨h.1, h.2.1, h.2.2.1, fun hp => by
    obtain ⟨b, o, e, hr⟩ := h.2.2.2 hp
    exact ⟨b, o, e, fun i f hf j v hv => by rw [hb.cell (hlow b o e hp)]; exact hr i f hf j v hv⟩⟩

/-- The search's state. -/
structure Cho (w : World) (base C : Nat) (A : Option Addr) (len c : Nat) (n : Int) (T Bs : List Nat) (tv bv : Value) : Prop where
  blk : Blk w C [.slice A len c, .int .i64 n, tv, bv] 66
  own : Own w base 2 tv (i64s (ni T))
  best : Own w base 2 bv (i64s (ni Bs))
  low : base ≤ C
  tne : tv.ownBlock ≠ some C
  bne : bv.ownBlock ≠ some C
  tb : tv.ownBlock = none ∨ tv.ownBlock ≠ bv.ownBlock
theorem Cho.kept {w w' : World} {base C : Nat} {A : Option Addr} {len c : Nat} {n : Int} {T Bs : List Nat} {tv bv : Value} (h : Cho w base C A len c n T Bs tv bv) (hb : Below w.heap.size w w') : Cho w' base C A len c n T Bs tv bv :=
  ⟨h.blk.kept hb, h.own.kept hb, h.best.kept hb, h.low, h.tne, h.bne, h.tb⟩
theorem Cho.drewN {w : World} {base C : Nat} {A : Option Addr} {len c : Nat} {n : Int} {T Bs : List Nat} {tv bv : Value} (h : Cho w base C A len c n T Bs tv bv) (q : Nat) : Cho (w.drewN q) base C A len c n T Bs tv bv :=
  ⟨h.blk, h.own, h.best, h.low, h.tne, h.bne, h.tb⟩
theorem Cho.drew {w : World} {base C : Nat} {A : Option Addr} {len c : Nat} {n : Int} {T Bs : List Nat} {tv bv : Value} (h : Cho w base C A len c n T Bs tv bv) : Cho w.drew base C A len c n T Bs tv bv :=
  ⟨h.blk, h.own, h.best, h.low, h.tne, h.bne, h.tb⟩
theorem bl_drew {B : Nat} {w w' : World} (h : Below B w w') : Below B w w'.drew := ⟨h.os, h.tape, h.output, h.size, h.block⟩
theorem keepC {w W W' : World} {C : Nat} {u0 u1 u2 : Value} (h : Below w.heap.size w W ∧ W.cell? ⟨C, 0, none⟩ = some u0 ∧ W.cell? ⟨C, 1, none⟩ = some u1 ∧ W.cell? ⟨C, 2, none⟩ = some u2) (hb : Below W.heap.size W W') :
    Below w.heap.size w W' ∧ W'.cell? ⟨C, 0, none⟩ = some u0 ∧ W'.cell? ⟨C, 1, none⟩ = some u1 ∧ W'.cell? ⟨C, 2, none⟩ = some u2 :=
  ⟨bl_call h.1 hb, (hb.cell (World.block_lt_of_cell? W _ h.2.1)).trans h.2.1, (hb.cell (World.block_lt_of_cell? W _ h.2.2.1)).trans h.2.2.1, (hb.cell (World.block_lt_of_cell? W _ h.2.2.2)).trans h.2.2.2⟩

def FromOk (fs : List (List Int)) (n : Int) (A : Option Addr) (c : Nat) (m : Nat) : Prop :=
  ∀ (k : Nat) (T Bs : List Nat) (tv bv : Value) (w : World) (base C : Nat), k + m = fs.length → (∀ x ∈ T, x < fs.length) → T.length ≤ k → Bs.length ≤ fs.length → SlF w A fs → (∀ b o, A = some ⟨b, o, none⟩ → 0 < fs.length → b < base) → Cho w base C A fs.length c n T Bs tv bv →
    Calls Try.prog 50 #[.pointer (some ⟨C, 0, none⟩), .int .i64 (k : Int)] w fun e w' => e = .returned (.tuple #[]) ∧ (∃ tv' bv', Cho w' base C A fs.length c n T (loopS (gF fs n) m k T (updN T Bs)) tv' bv') ∧ Below base w w'

theorem loopS_length (f : Nat → Nat → Bool) : ∀ (m k : Nat) (T B : List Nat) (N : Nat), k + m = N → T.length ≤ k → B.length ≤ N → (loopS f m k T B).length ≤ N
  | 0, k, T, B, N, _, _, hB => hB
  | m + 1, k, T, B, N, hk, hT, hB => by
    unfold loopS
    split
    · refine loopS_length f m (k + 1) T _ N (by omega) (by omega) (loopS_length f m (k + 1) _ _ N (by omega) (by simp; omega) ?_)
      unfold updN
      split
      · simp; omega
      · exact hB
    · exact loopS_length f m (k + 1) T B N (by omega) (by omega) hB
theorem loop_hit {f : Nat → Nat → Bool} {m k : Nat} {T B : List Nat} (h : fitsN f T k = true) : loopS f (m + 1) k T B = loopS f m (k + 1) T (loopS f m (k + 1) (T ++ [k]) (updN (T ++ [k]) B)) := by
  show (if _ then _ else _) = _
  rw [if_pos h]
theorem loop_miss {f : Nat → Nat → Bool} {m k : Nat} {T B : List Nat} (h : fitsN f T k = false) : loopS f (m + 1) k T B = loopS f m (k + 1) T B := by
  show (if _ then _ else _) = _
  rw [if_neg (by rw [h]; simp)]
theorem upd_length {T B : List Nat} {N : Nat} (hT : T.length ≤ N) (hB : B.length ≤ N) : (updN T B).length ≤ N := by unfold updN; split <;> assumption

set_option maxRecDepth 100000 in
set_option maxHeartbeats 4000000 in
/-- The loop, from its start on. -/
theorem from_step (fs : List (List Int)) (hv : vfs fs = true) (h12 : fs.length ≤ 12) (n : Int) (A : Option Addr) (c : Nat) (M : Nat) (ih : ∀ m, m < M → FromOk fs n A c m) : FromOk fs n A c M := by
  intro k T Bs tv bv w base C hk hT hTk hBs hs hlow hC
  obtain ⟨A1, c1, rfl, S1⟩ := hC.own.sl
  obtain ⟨A2, c2, rfl, S2⟩ := hC.best.sl
  have HK := As.mk hk
  have HT := As.mk hT
  have ih' := As.mk ih
  obtain ⟨N, hN⟩ : ∃ N, fs.length = N := ⟨_, rfl⟩
  have HM := As.mk hN
  have hbase : base ≤ w.heap.size := Nat.le_trans hC.low (Nat.le_of_lt hC.blk.lt)
  have hC0 := hC
  obtain ⟨hB, hO, hO2, hl0, htn, hbn, htb⟩ := hC
  have c0 := hB.at 0
  have c2' := hB.at 2
  have c3' := hB.at 3
  simp only [List.getElem?_cons_zero, List.getElem?_cons_succ] at c0 c2' c3'
  have l1 := ni_length T
  have l2 := ni_length Bs
  have lT : (ni T).length ≤ 12 := by rw [l1]; omega
  have lB : (ni Bs).length ≤ 12 := by rw [l2]; omega
  have hL1 := As.mk l1
  have hL2 := As.mk l2
  rw [hN] at hk hBs hlow hC0 c0 ⊢
  have hlow' := As.mk hlow
  have HC0 := As.mk hC0
  have HS := As.mk hs
  have hkN := As.mk hk
  obtain ⟨R, hR⟩ : ∃ R, loopS (gF fs n) M k T (updN T Bs) = R := ⟨_, rfl⟩
  have HR := As.mk hR
  rw [hR]
  clear hR
  by_cases hgt : Bs.length < T.length
  case' pos =>
    have hgt' : ((ni Bs).length : Int) < ((ni T).length : Int) := by rw [l1, l2]; omega
    have HU := As.mk (show updN T Bs = T by unfold updN; rw [if_pos hgt])
    obtain ⟨g1, rfl⟩ := hO.addr (by rw [i64s_length, l1]; omega)
    clear l1 l2 hgt hC0 ih hT hlow hs S1 S2 hB hO hO2 htn hbn htb
    go_enter Try.func50, Try.ntmps50
    go_wp2_with (fail)
    go_quiet (fail)
    have HCd := As.mk (HC0.out.drewN nq)
    have bd : Below base w (w.drewN nq) := bl_drewN (Below.refl _ _) nq
    have hbW : base ≤ (w.drewN nq).heap.size := hbase
    clear c0 c2' c3' hbase
    generalize w.drewN nq = W at *
    have e2 := (HCd.out.blk.alloc (.cells #[] 2)).at 2
    have e3 := (HCd.out.blk.alloc (.cells #[] 2)).at 3
    simp only [List.getElem?_cons_zero, List.getElem?_cons_succ] at e2 e3
    have hOl := Own.lit W base 2 [] hbW (by simp)
    have hR := (HCd.out.own.alloc (.cells #[] 2)).range
    have bd1 : Below base w (W.alloc (.cells #[] 2)) := bd.alloc hbW _
    have hCW := As.mk HCd.out.blk.lt
    have hszW : (W.alloc (.cells #[] 2)).heap.size = W.heap.size + 1 := by simp
    go_wp2_with (at_builtin; refine appN (P := Try.prog) (w0 := w) (W := W.alloc (.cells #[] 2)) base rfl (.tmp 17) (.tmp 21) 24 2 (.int .i64 0) 8 rfl Try.underlying24 info_i64 rfl (by omega) (.slice (some ⟨W.heap.size, 0, none⟩) 0 0) [] (i64s (ni T)) g1 0 c1 (ni T).length rfl rfl (i64s_length _) (i64s_one _) hOl hR bd1 (by rw [hszW]; omega) (by simp; omega) ?_)
    intro v1 w2 hO1 hb2 hg2 hat
    have hO1 : Own w2 base 2 v1 (i64s (ni T)) := hO1
    have hq : As (∃ q, v1.ownBlock = some q ∧ W.heap.size ≤ q) := ⟨by
      rcases hat with e | ⟨q, e, hq⟩
      · exact ⟨W.heap.size, e, Nat.le_refl _⟩
      · exact ⟨q, e, by omega⟩⟩
    have hg2 : (W.alloc (.cells #[] 2)).grownBy w2 (some W.heap.size) := hg2
    have X2 := (HCd.out.blk.alloc (.cells #[] 2)).byGrown hg2 (by have := hCW.out; simp; omega)
    obtain ⟨u3, d3⟩ := X2.some 3 (by simp)
    have f3 := X2.frozen 3
    have HT2 := As.mk ((HCd.out.own.alloc (.cells #[] 2)).grown hg2 (.inr (by
      intro e
      have := HCd.out.own.lt _ e
      omega)))
    clear hat e2 e3 hOl hR bd1 hszW hg2
    obtain ⟨A3, c3, rfl, _⟩ := hO1.sl
    go_wp2_with (fail)
    have HC1 : As (∃ tv bv, Cho (w2.setCell ⟨C, 3, none⟩ (Value.slice A3 (ni T).length c3)) base C A N c n T (updN T Bs) tv bv) := ⟨⟨_, Value.slice A3 (ni T).length c3, by
      obtain ⟨q, e, hqW⟩ := hq.out
      have hCq : (Value.slice A3 (ni T).length c3).ownBlock ≠ some C := by
        intro e'
        rw [e] at e'
        have := hCW.out
        injection e' with e'
        omega
      refine ⟨?_, HT2.out.far HCd.out.tne _, ?_, HCd.out.low, HCd.out.tne, hCq, ?_⟩
      · have := X2.set 3 (Value.slice A3 (ni T).length c3)
        simpa using this
      · rw [HU.out]; exact Own.far hO1 hCq _
      · right
        rw [e]
        intro e'
        have := HCd.out.own.lt _ e'
        omega⟩⟩
    have b1 : Below base w (w2.setCell ⟨C, 3, none⟩ (Value.slice A3 (ni T).length c3)) := hb2.setCell hl0 _
    clear X2 d3 f3 HT2 hO1 hb2 hq
    generalize w2.setCell ⟨C, 3, none⟩ (Value.slice A3 (ni T).length c3) = W1 at *
    clear HU hCW bd hbW HCd hgt' HC0
  case' neg =>
    have hgd : decide ((ni Bs).length < (ni T).length) = false := decide_eq_false (by rw [l1, l2]; omega)
    have hgt' : ¬ (((ni Bs).length : Int) < ((ni T).length : Int)) := by rw [l1, l2]; omega
    have HU := As.mk (show updN T Bs = Bs by unfold updN; rw [if_neg hgt])
    clear l1 l2 hgt hC0 ih hT hlow hs S1 S2 hB hO hO2 htn hbn htb
    go_enter Try.func50, Try.ntmps50
    go_wp2_with (fail)
    go_quiet (fail)
    have HC1 : As (∃ tv bv, Cho (w.drewN nq) base C A N c n T (updN T Bs) tv bv) := ⟨⟨_, _, by rw [HU.out]; exact HC0.out.drewN nq⟩⟩
    have b1 : Below base w (w.drewN nq) := bl_drewN (Below.refl _ _) nq
    clear c0 c2' c3' hbase
    generalize w.drewN nq = W1 at *
    go_wp2_with (fail)
    try simp only [hgd]
    clear HU hgt' hgd HC0
  all_goals
    have hkf := fun (l : List Int) hl A' c' (i : Nat) hi W h h' => l01Fits_any fs hv (by omega) A c l hl A' c' i hi n W h h'
    have hkf' := As.mk hkf
    clear hkf hv
    go_loopw [4] (fun v wr => ∃ j : Nat, k ≤ j ∧ j ≤ N ∧ v = .int .i64 j ∧ As (∃ tv bv B', Cho wr base C A N c n T B' tv bv ∧ B'.length ≤ N ∧ loopS (gF fs n) (N - j) j T B' = R) ∧ Below base w wr) (fun v _ => N - (intOf v).toNat)
    case atStart =>
      refine ⟨k, Nat.le_refl _, by have := hkN.out; omega, rfl, ⟨?_⟩, b1⟩
      obtain ⟨tv, bv, h⟩ := HC1.out
      exact ⟨tv, bv, _, h, upd_length (by have := hkN.out; omega) hBs, by rw [← HR.out]; congr 1; have := hkN.out; omega⟩
    case round =>
      obtain ⟨j, hkj, hjN, rfl, HE, hb⟩ := hrel
      clear HC1 b1
      obtain ⟨tv, bv, B', hC, hB', hE⟩ := HE.out
      clear HE
      have HE := As.mk hE
      have HC := As.mk hC
      clear hE
      obtain ⟨hB, hO, hO2, hl0, htn, hbn, htb⟩ := hC
      obtain ⟨A1, c1, rfl, S1⟩ := hO.sl
      have c0 := hB.at 0
      simp only [List.getElem?_cons_zero, List.getElem?_cons_succ] at c0
      by_cases hlt : j < N
      · have hlt' : (j : Int) < (N : Int) := by omega
        have d0 := hB.at 1
        have d1 := hB.at 2
        simp only [List.getElem?_cons_zero, List.getElem?_cons_succ] at d0 d1
        have hjf : j < fs.length := by rw [HM.out]; exact hlt
        have hsW : SlF wr A fs := HS.out.keptB hb (fun b o e hp => hlow'.out b o e (by rw [← HM.out]; exact hp))
        have kf := fun W h h' => hkf'.out (ni T) (fun x hx => by
          obtain ⟨y, hy, rfl⟩ := List.mem_map.1 hx
          exact ⟨y, HT.out y hy, rfl⟩) A1 c1 j hjf W h h'
        rw [HM.out] at kf
        have kf2 := fun W (hW : Below wr.heap.size wr W) => kf W (hsW.kept hW) (S1.kept hW)
        rw [fits_eq] at kf2
        have S0 : Below wr.heap.size wr wr ∧ wr.cell? ⟨C, 0, none⟩ = some (.slice A N c) ∧ wr.cell? ⟨C, 1, none⟩ = some (.int .i64 n) ∧ wr.cell? ⟨C, 2, none⟩ = some (.slice A1 (ni T).length c1) := ⟨Below.refl _ _, c0, d0, d1⟩
        obtain ⟨mm, hmm⟩ : ∃ mm, N - j = mm + 1 := ⟨N - j - 1, by omega⟩
        have hm1 := As.mk (show N - (j + 1) = mm by omega)
        rw [hmm] at HE
        have hmM := As.mk (show mm < M by have := hkN.out; omega)
        clear kf hsW S1 d0 d1 hB hO hO2 htn hbn htb hmm
        cases hf : fitsN (gF fs n) T j
        · have hst := As.mk (loop_miss (m := mm) (B := B') hf)
          rw [hf] at kf2
          clear hf
          go_wp2_with (fail)
          refine wp_region_held_drew (S := (fun W => Below wr.heap.size wr W ∧ W.cell? ⟨C, 0, none⟩ = some (.slice A N c) ∧ W.cell? ⟨C, 1, none⟩ = some (.int .i64 n) ∧ W.cell? ⟨C, 2, none⟩ = some (.slice A1 (ni T).length c1))) (by kernel_rfl) ⟨S0.1.drew, S0.2.1, S0.2.2.1, S0.2.2.2⟩ (fun hHeld => ?_)
          (refine hTake 0 35 (v := .pointer (some ⟨C, 0, none⟩)) rfl rfl (by kernel_rfl) (by kernel_rfl) (by kernel_rfl) (fun _ _ _ h => h) (Or.inl ⟨by rfl, fun W _ => rfl⟩) hHeld ?_; simp only [List.set_cons_zero, List.set_cons_succ])
          (refine hTake 1 36 (v := .pointer (some ⟨C, 0, none⟩)) rfl rfl (by kernel_rfl) (by kernel_rfl) (by kernel_rfl) (fun _ _ _ h => h) (Or.inl ⟨by rfl, fun W _ => by go_simp⟩) hHeld ?_; simp only [List.set_cons_zero, List.set_cons_succ])
          (refine hTake 2 37 (v := .pointer (some ⟨C, 0, none⟩)) rfl rfl (by kernel_rfl) (by kernel_rfl) (by kernel_rfl) (fun _ _ _ h => h) (Or.inl ⟨by rfl, fun W _ => by go_simp⟩) hHeld ?_; simp only [List.set_cons_zero, List.set_cons_succ])
          (refine hTake 3 38 (v := .slice A N c) rfl rfl (by kernel_rfl) (by kernel_rfl) (by kernel_rfl) (fun _ _ _ h => h) (Or.inl ⟨by rfl, fun W h => by (have h1 := h.2.1; clear h; go_simp)⟩) hHeld ?_; simp only [List.set_cons_zero, List.set_cons_succ])
          (refine hTake 4 39 (v := .pointer (some ⟨C, 0, none⟩)) rfl rfl (by kernel_rfl) (by kernel_rfl) (by kernel_rfl) (fun _ _ _ h => h) (Or.inl ⟨by rfl, fun W _ => rfl⟩) hHeld ?_; simp only [List.set_cons_zero, List.set_cons_succ])
          (refine hTake 5 40 (v := .pointer (some ⟨C, 0, none⟩)) rfl rfl (by kernel_rfl) (by kernel_rfl) (by kernel_rfl) (fun _ _ _ h => h) (Or.inl ⟨by rfl, fun W _ => by go_simp⟩) hHeld ?_; simp only [List.set_cons_zero, List.set_cons_succ])
          (refine hTake 6 41 (v := .pointer (some ⟨C, 2, none⟩)) rfl rfl (by kernel_rfl) (by kernel_rfl) (by kernel_rfl) (fun _ _ _ h => h) (Or.inl ⟨by rfl, fun W _ => by go_simp⟩) hHeld ?_; simp only [List.set_cons_zero, List.set_cons_succ])
          (refine hTake 7 42 (v := .slice A1 (ni T).length c1) rfl rfl (by kernel_rfl) (by kernel_rfl) (by kernel_rfl) (fun _ _ _ h => h) (Or.inl ⟨by rfl, fun W h => by (have h1 := h.2.2.2; clear h; go_simp)⟩) hHeld ?_; simp only [List.set_cons_zero, List.set_cons_succ])
          (refine hTake 8 43 (v := .int .i64 (j : Int)) rfl rfl (by kernel_rfl) (by kernel_rfl) (by kernel_rfl) (fun _ _ _ h => h) (Or.inl ⟨by rfl, fun W _ => rfl⟩) hHeld ?_; simp only [List.set_cons_zero, List.set_cons_succ])
          (refine hTake 9 44 (v := .pointer (some ⟨C, 0, none⟩)) rfl rfl (by kernel_rfl) (by kernel_rfl) (by kernel_rfl) (fun _ _ _ h => h) (Or.inl ⟨by rfl, fun W _ => rfl⟩) hHeld ?_; simp only [List.set_cons_zero, List.set_cons_succ])
          (refine hTake 10 45 (v := .pointer (some ⟨C, 0, none⟩)) rfl rfl (by kernel_rfl) (by kernel_rfl) (by kernel_rfl) (fun _ _ _ h => h) (Or.inl ⟨by rfl, fun W _ => by go_simp⟩) hHeld ?_; simp only [List.set_cons_zero, List.set_cons_succ])
          (refine hTake 11 46 (v := .pointer (some ⟨C, 1, none⟩)) rfl rfl (by kernel_rfl) (by kernel_rfl) (by kernel_rfl) (fun _ _ _ h => h) (Or.inl ⟨by rfl, fun W _ => by go_simp⟩) hHeld ?_; simp only [List.set_cons_zero, List.set_cons_succ])
          (refine hTake 12 47 (v := .int .i64 n) rfl rfl (by kernel_rfl) (by kernel_rfl) (by kernel_rfl) (fun _ _ _ h => h) (Or.inl ⟨by rfl, fun W h => by (have h1 := h.2.2.1; clear h; go_simp)⟩) hHeld ?_; simp only [List.set_cons_zero, List.set_cons_succ])
          refine hCall 13 48 43 rfl rfl (by kernel_rfl) (args := #[.slice A N c, .slice A1 (ni T).length c1, .int .i64 (j : Int), .int .i64 n]) (by rfl) (by go_simp) (.bool false) (kf2 _ hHeld.1) (fun wq hq => ⟨keepC hHeld hq, ?_⟩)
          simp only [List.set_cons_zero, List.set_cons_succ]
          replace hHeld := keepC hHeld hq
          (refine hTake 14 49 (v := .bool true) rfl rfl (by kernel_rfl) (by kernel_rfl) (by kernel_rfl) (fun _ _ _ h => h) (Or.inl ⟨by rfl, fun W _ => by go_simp⟩) hHeld ?_; simp only [List.set_cons_zero, List.set_cons_succ])
          refine wpAnyH_done (by kernel_rfl) ?_ _
          have hbz : base ≤ wr.heap.size := Nat.le_trans HC.out.low (Nat.le_of_lt HC.out.blk.lt)
          have hbq : Below base w wq := hb.trans (hHeld.1.mono hbz)
          have HCq := As.mk (HC.out.kept hHeld.1)
          have hqz : base ≤ wq.heap.size := Nat.le_trans hbz hHeld.1.size
          clear kf2 hq S0 HC
          clear hHeld
          go_wp2_with (fail)
          go_roundw
          case rel => exact ⟨j + 1, by omega, by omega, by go_num, ⟨⟨_, _, B', HCq.out, hB', by rw [hm1.out, ← hst.out]; exact HE.out⟩⟩, hbq⟩
          case measure => simp [intOf]; omega
        · have hst := As.mk (loop_hit (m := mm) (B := B') hf)
          rw [hf] at kf2
          clear hf
          go_wp2_with (fail)
          refine wp_region_held_drew (S := (fun W => Below wr.heap.size wr W ∧ W.cell? ⟨C, 0, none⟩ = some (.slice A N c) ∧ W.cell? ⟨C, 1, none⟩ = some (.int .i64 n) ∧ W.cell? ⟨C, 2, none⟩ = some (.slice A1 (ni T).length c1))) (by kernel_rfl) ⟨S0.1.drew, S0.2.1, S0.2.2.1, S0.2.2.2⟩ (fun hHeld => ?_)
          (refine hTake 0 35 (v := .pointer (some ⟨C, 0, none⟩)) rfl rfl (by kernel_rfl) (by kernel_rfl) (by kernel_rfl) (fun _ _ _ h => h) (Or.inl ⟨by rfl, fun W _ => rfl⟩) hHeld ?_; simp only [List.set_cons_zero, List.set_cons_succ])
          (refine hTake 1 36 (v := .pointer (some ⟨C, 0, none⟩)) rfl rfl (by kernel_rfl) (by kernel_rfl) (by kernel_rfl) (fun _ _ _ h => h) (Or.inl ⟨by rfl, fun W _ => by go_simp⟩) hHeld ?_; simp only [List.set_cons_zero, List.set_cons_succ])
          (refine hTake 2 37 (v := .pointer (some ⟨C, 0, none⟩)) rfl rfl (by kernel_rfl) (by kernel_rfl) (by kernel_rfl) (fun _ _ _ h => h) (Or.inl ⟨by rfl, fun W _ => by go_simp⟩) hHeld ?_; simp only [List.set_cons_zero, List.set_cons_succ])
          (refine hTake 3 38 (v := .slice A N c) rfl rfl (by kernel_rfl) (by kernel_rfl) (by kernel_rfl) (fun _ _ _ h => h) (Or.inl ⟨by rfl, fun W h => by (have h1 := h.2.1; clear h; go_simp)⟩) hHeld ?_; simp only [List.set_cons_zero, List.set_cons_succ])
          (refine hTake 4 39 (v := .pointer (some ⟨C, 0, none⟩)) rfl rfl (by kernel_rfl) (by kernel_rfl) (by kernel_rfl) (fun _ _ _ h => h) (Or.inl ⟨by rfl, fun W _ => rfl⟩) hHeld ?_; simp only [List.set_cons_zero, List.set_cons_succ])
          (refine hTake 5 40 (v := .pointer (some ⟨C, 0, none⟩)) rfl rfl (by kernel_rfl) (by kernel_rfl) (by kernel_rfl) (fun _ _ _ h => h) (Or.inl ⟨by rfl, fun W _ => by go_simp⟩) hHeld ?_; simp only [List.set_cons_zero, List.set_cons_succ])
          (refine hTake 6 41 (v := .pointer (some ⟨C, 2, none⟩)) rfl rfl (by kernel_rfl) (by kernel_rfl) (by kernel_rfl) (fun _ _ _ h => h) (Or.inl ⟨by rfl, fun W _ => by go_simp⟩) hHeld ?_; simp only [List.set_cons_zero, List.set_cons_succ])
          (refine hTake 7 42 (v := .slice A1 (ni T).length c1) rfl rfl (by kernel_rfl) (by kernel_rfl) (by kernel_rfl) (fun _ _ _ h => h) (Or.inl ⟨by rfl, fun W h => by (have h1 := h.2.2.2; clear h; go_simp)⟩) hHeld ?_; simp only [List.set_cons_zero, List.set_cons_succ])
          (refine hTake 8 43 (v := .int .i64 (j : Int)) rfl rfl (by kernel_rfl) (by kernel_rfl) (by kernel_rfl) (fun _ _ _ h => h) (Or.inl ⟨by rfl, fun W _ => rfl⟩) hHeld ?_; simp only [List.set_cons_zero, List.set_cons_succ])
          (refine hTake 9 44 (v := .pointer (some ⟨C, 0, none⟩)) rfl rfl (by kernel_rfl) (by kernel_rfl) (by kernel_rfl) (fun _ _ _ h => h) (Or.inl ⟨by rfl, fun W _ => rfl⟩) hHeld ?_; simp only [List.set_cons_zero, List.set_cons_succ])
          (refine hTake 10 45 (v := .pointer (some ⟨C, 0, none⟩)) rfl rfl (by kernel_rfl) (by kernel_rfl) (by kernel_rfl) (fun _ _ _ h => h) (Or.inl ⟨by rfl, fun W _ => by go_simp⟩) hHeld ?_; simp only [List.set_cons_zero, List.set_cons_succ])
          (refine hTake 11 46 (v := .pointer (some ⟨C, 1, none⟩)) rfl rfl (by kernel_rfl) (by kernel_rfl) (by kernel_rfl) (fun _ _ _ h => h) (Or.inl ⟨by rfl, fun W _ => by go_simp⟩) hHeld ?_; simp only [List.set_cons_zero, List.set_cons_succ])
          (refine hTake 12 47 (v := .int .i64 n) rfl rfl (by kernel_rfl) (by kernel_rfl) (by kernel_rfl) (fun _ _ _ h => h) (Or.inl ⟨by rfl, fun W h => by (have h1 := h.2.2.1; clear h; go_simp)⟩) hHeld ?_; simp only [List.set_cons_zero, List.set_cons_succ])
          refine hCall 13 48 43 rfl rfl (by kernel_rfl) (args := #[.slice A N c, .slice A1 (ni T).length c1, .int .i64 (j : Int), .int .i64 n]) (by rfl) (by go_simp) (.bool true) (kf2 _ hHeld.1) (fun wq hq => ⟨keepC hHeld hq, ?_⟩)
          simp only [List.set_cons_zero, List.set_cons_succ]
          replace hHeld := keepC hHeld hq
          (refine hTake 14 49 (v := .bool false) rfl rfl (by kernel_rfl) (by kernel_rfl) (by kernel_rfl) (fun _ _ _ h => h) (Or.inl ⟨by rfl, fun W _ => by go_simp⟩) hHeld ?_; simp only [List.set_cons_zero, List.set_cons_succ])
          refine wpAnyH_done (by kernel_rfl) ?_ _
          have hbz : base ≤ wr.heap.size := Nat.le_trans HC.out.low (Nat.le_of_lt HC.out.blk.lt)
          have hbq : Below base w wq := hb.trans (hHeld.1.mono hbz)
          have HCq := As.mk (HC.out.kept hHeld.1)
          have hqz : base ≤ wq.heap.size := Nat.le_trans hbz hHeld.1.size
          clear kf2 hq S0 HC
          have hOq := HCq.out.own
          have lT' : (i64s (ni T)).length ≤ 12 := by rw [i64s_length]; exact lT
          have c2q := hHeld.2.2.2
          clear hHeld
          go_wp2_with (at_builtin; refine app1 (P := Try.prog) (w0 := w) (W := wq) base rfl (.tmp 54) (.tmp 56) 24 2 (.int .i64 0) 8 rfl Try.underlying24 info_i64 rfl (by omega) (.slice A1 (ni T).length c1) (i64s (ni T)) (.int .i64 (j : Int)) rfl rfl rfl hOq hbq hqz (by omega) ?_)
          intro v1 w2 hO1 hb2 hg2 hat
          have hO1 : Own w2 base 2 v1 (i64s (ni (T ++ [j]))) := by rw [← ni_snoc, ← i64_snoc]; exact hO1
          have hbo : HCq.out.best = HCq.out.best := rfl
          have hcq : C < wq.heap.size := HCq.out.blk.lt
          have hv1 : v1.ownBlock ≠ some C := by
            rcases hat with e | ⟨q, e, hq⟩
            · rw [e]; exact HCq.out.tne
            · rw [e]; intro e'; injection e' with e'; omega
          have htb1 : v1.ownBlock = none ∨ v1.ownBlock ≠ bv.ownBlock := by
            rcases hat with e | ⟨q, e, hq⟩
            · rw [e]; exact HCq.out.tb
            · right; rw [e]; intro e'
              have := HCq.out.best.lt _ e'.symm
              omega
          have hB2 := HCq.out.best.grown hg2 (by
            rcases HCq.out.tb with e | e
            · rw [e]
              cases hbv : bv.ownBlock
              · exact .inl rfl
              · exact .inr (by simp)
            · exact .inr e.symm)
          have X2 := HCq.out.blk.byGrown hg2 HCq.out.tne
          obtain ⟨u3, d3⟩ := X2.some 2 (by simp)
          have f3 := X2.frozen 2
          obtain ⟨A3, c3, rfl, _⟩ := hO1.sl
          have hC3 : As (Cho (w2.setCell ⟨C, 2, none⟩ (Value.slice A3 (ni (T ++ [j])).length c3)) base C A N c n (T ++ [j]) B' (Value.slice A3 (ni (T ++ [j])).length c3) bv) := ⟨by
            refine ⟨?_, hO1.far hv1 _, hB2.far HCq.out.bne _, HCq.out.low, hv1, HCq.out.bne, htb1⟩
            have := X2.set 2 (Value.slice A3 (ni (T ++ [j])).length c3)
            simpa using this⟩
          have b3 : Below base w (w2.setCell ⟨C, 2, none⟩ (Value.slice A3 (ni (T ++ [j])).length c3)) := hb2.setCell HCq.out.low _
          have kIH := ih'.out mm hmM.out
          unfold FromOk at kIH
          simp only [HM.out] at kIH
          have hs3 : SlF (w2.setCell ⟨C, 2, none⟩ (Value.slice A3 (ni (T ++ [j])).length c3)) A fs := HS.out.keptB b3 (fun b o e hp => hlow'.out b o e (by rw [← HM.out]; exact hp))
          have key := kIH (j + 1) (T ++ [j]) B' _ _ _ base C (by have := hm1.out; omega) (fun x hx => by
            rcases List.mem_append.1 hx with hx | hx
            · have := HT.out x hx; rw [HM.out] at this; exact this
            · simp at hx; subst hx; exact hlt) (by simp; omega) hB' hs3 hlow'.out hC3.out
          have hst2 := As.mk (hst.out.symm.trans HE.out)
          have hc3z : base ≤ (w2.setCell ⟨C, 2, none⟩ (Value.slice A3 (ni (T ++ [j])).length c3)).heap.size := by
            have := hC3.out.blk.lt; have := hC3.out.low; omega
          clear kIH hs3 hO1 hbo hv1 htb1 hB2 hat hg2 hb2 HE hst hOq lT' c2q ih'
          rw [show (((j + 1 : Nat)) : Int) = (j : Int) + 1 by omega] at key
          go_wp2_with (fail)
          refine key.mono ?_; rintro e w4 ⟨rfl, ⟨tv4, bv4, hC4⟩, hb4⟩
          have b4 : Below base w w4 := b3.trans (hb4.mono (Nat.le_refl _))
          clear key X2 d3 f3 b3 hc3z hC3
          obtain ⟨A4, c4, rfl, _⟩ := hC4.own.sl
          obtain ⟨g4, rfl⟩ := hC4.own.addr (by rw [i64s_length, ni_length]; simp)
          have hz1 : (ni (T ++ [j])).length = (ni T).length + 1 := by rw [ni_length, ni_length]; simp
          rw [hz1] at hC4
          have hcp := hC4.own.cap'
          rw [i64s_length, hz1] at hcp
          have HC4 := As.mk hC4
          have d4 := hC4.blk.at 2
          simp only [List.getElem?_cons_zero, List.getElem?_cons_succ] at d4
          have f4 := hC4.blk.frozen 2
          obtain ⟨z, hz⟩ : ∃ z, (ni T).length = z := ⟨_, rfl⟩
          have HZ := As.mk hz
          rw [hz] at d4 hcp lT
          have hq1 : ((z : Int) + 1) - 1 = (z : Int) := by omega
          have hq2 : (0 : Int) ≤ (z : Int) := by omega
          have hq3 : (z : Int) ≤ (c4 : Int) := by omega
          have hq4 : IntKind.i64.wrap (z : Int) = (z : Int) := by simp [IntKind.wrap, IntKind.bits, IntKind.signed]; omega
          clear hC4 hz hz1
          go_wp2_with (fail)
          go_still_tail 14, (by kernel_rfl)
          change wpList _ _ _ _ _ w4.drew
          have HC5 := As.mk HC4.out.drew
          have b5 : Below base w w4.drew := bl_drew b4
          have d5 : w4.drew.cell? ⟨C, 2, none⟩ = some (Value.slice (some ⟨g4, 0, none⟩) (z + 1) c4) := d4
          have f5 : w4.drew.frozen? ⟨C, 2, none⟩ = false := f4
          clear HC4 b4 d4 f4
          generalize w4.drew = w5 at *
          go_wp2_with (fail)
          clear hq1 hq2 hq3 hq4 d5 f5
          have HC6 : As (Cho (w5.setCell ⟨C, 2, none⟩ (Value.slice (some ⟨g4, 0, none⟩) z c4)) base C A N c n T (loopS (gF fs n) mm (j + 1) (T ++ [j]) (updN (T ++ [j]) B')) (Value.slice (some ⟨g4, 0, none⟩) z c4) bv4) := ⟨by
            have h5 := HC5.out
            have hO5 := h5.own
            rw [← ni_snoc, ← i64_snoc] at hO5
            have hO6 := hO5.cut
            rw [i64s_length, HZ.out] at hO6
            have hB6 := h5.blk.set 2 (Value.slice (some ⟨g4, 0, none⟩) z c4)
            have ht : (Value.slice (some ⟨g4, 0, none⟩) z c4).ownBlock ≠ some C := h5.tne
            have htb : (Value.slice (some ⟨g4, 0, none⟩) z c4).ownBlock = none ∨ (Value.slice (some ⟨g4, 0, none⟩) z c4).ownBlock ≠ bv4.ownBlock := h5.tb
            exact ⟨hB6, hO6.far (p := ⟨C, 2, none⟩) ht _, h5.best.far h5.bne _, h5.low, ht, h5.bne, htb⟩⟩
          have b6 : Below base w (w5.setCell ⟨C, 2, none⟩ (Value.slice (some ⟨g4, 0, none⟩) z c4)) := b5.setCell HC5.out.low _
          have HLn := As.mk (show (loopS (gF fs n) mm (j + 1) (T ++ [j]) (updN (T ++ [j]) B')).length ≤ N from loopS_length _ mm (j + 1) _ _ N (by have := hm1.out; omega) (by simp; omega) (upd_length (by simp; omega) hB'))
          clear HC5 b5 hcp lT
          go_roundw
          case rel => exact ⟨j + 1, by omega, by omega, by go_num, ⟨⟨_, _, _, HC6.out, HLn.out, by rw [hm1.out]; exact hst2.out⟩⟩, b6⟩
          case measure => simp [intOf]; omega
      · obtain rfl : j = N := by omega
        have hE2 := HE.out
        rw [Nat.sub_self] at hE2
        have hE3 : B' = R := hE2
        subst hE3
        clear hE2 HE HR
        go_wp2_with (fail)
        refine bodyPost_end (results_none2 rfl _ _ _) rfl ⟨rfl, ⟨_, _, HC.out⟩, hb⟩
end Go.Proofs.Ytjppoejkfpeicaa
