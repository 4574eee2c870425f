/- Contracts: first, HoistFor, LeastSets (impl). -/
import Derived.Test.YtnokdbnlagoidaaHs
set_option linter.unusedVariables false
namespace Go.Proofs.Ytnokdbnlagoidaa
open Go.RowKit

/-- What 'first' keeps: the hoist that was found, and whether one was. -/
def Fst (O F base : Nat) (w : World) (T : List (List Int)) : Prop := ∃ fv, Blk w O [fv] 23 ∧ Blk w F [.bool (!T.isEmpty)] 4 ∧ Own w base 42 fv (i8s (T.headD []))

set_option maxRecDepth 100000 in
set_option maxHeartbeats 1000000 in
theorem first1_any (O F base : Nat) (hOF : O ≠ F) (hlt : O < base ∧ F < base) (h : List Int) (v : Value) (w : World) (hx : Fst O F base w []) (hv : Own w base 42 v (i8s h)) :
    Calls Try.prog 90 #[v, .pointer (some ⟨O, 0, none⟩), .pointer (some ⟨F, 0, none⟩)] w fun e w' => e = .returned (.bool false) ∧ Fst O F base w' [h] ∧ Grw (fun k => k = O ∨ k = F) w w' := by
  obtain ⟨fv, B1, B2, _⟩ := hx
  have c1 := B1.at 0
  have c2 := B2.at 0
  simp only [List.getElem?_cons_zero] at c1 c2
  have f1 := B1.frozen 0
  have f2 := B2.frozen 0
  have B3 := (B1.set 0 v).far (p := ⟨F, 0, none⟩) hOF (.bool true)
  have B2' := B2.far (p := ⟨O, 0, none⟩) (Ne.symm hOF) v
  have c2' := B2'.at 0
  simp only [List.getElem?_cons_zero] at c2'
  have f2' := B2'.frozen 0
  have B4 := B2'.set 0 (.bool true)
  have hg : Grw (fun k => k = O ∨ k = F) w ((w.setCell ⟨O, 0, none⟩ v).setCell ⟨F, 0, none⟩ (.bool true)) :=
    (Grw.grown (grow_set (World.grownBy.refl w (some O)) 0 v) (.inl rfl)).trans (Grw.grown (grow_set (World.grownBy.refl _ (some F)) 0 (.bool true)) (.inr rfl))
  have hO := hv.grw hg (fun k (e : k = O ∨ k = F) => e.elim (fun e => by rw [e]; exact hlt.1) (fun e => by rw [e]; exact hlt.2))
  obtain ⟨A, c, rfl⟩ := hv.slice
  generalize (i8s h).length = n at *
  go_enter Try.func90, Try.ntmps90
  go_wp2_with (fail)
  go_ret
  exact ⟨rfl, ⟨_, B3, B4, hO⟩, hg⟩

/-- The search for the first hoist. -/
def sea1 (m : List Int) (A : Option Addr) (cm sets subs L O F : Nat) : Sea := ⟨m, A, cm, sets, subs, L, 90, #[.pointer (some ⟨O, 0, none⟩), .pointer (some ⟨F, 0, none⟩)], true, fun k => k = O ∨ k = F, Fst O F (L + 4)⟩
theorem sea1_ok (m : List Int) (A : Option Addr) (cm sets subs L O F : Nat) (hm : mOk m = true) (hsets : sets ≤ 8) (hsubs : subs ≤ 4) (hOF : O ≠ F) (hO : O < L) (hF : F < L) (hA : ∀ b o, A = some ⟨b, o, none⟩ → b < L ∧ b ≠ O ∧ b ≠ F) : SeaOk (sea1 m A cm sets subs L O F) where
  kinds := mOk_nth hm
  pos := (mOk_len hm).1
  len := (mOk_len hm).2
  subs := hsubs
  sets := hsets
  low := fun b o e => ⟨(hA b o e).1, fun e' => e'.elim (hA b o e).2.1 (hA b o e).2.2⟩
  rl := fun k e => by rcases e with e | e
                      · rw [e]; exact hO
                      · rw [e]; exact hF
  enters := enters Try.func90 (by kernel_rfl) rfl
  stab := fun w w' T hx hg => by
    obtain ⟨fv, B1, B2, hOw⟩ := hx
    exact ⟨fv, hg.blk B1 (fun e => by have e : O = L + 1 := e; omega), hg.blk B2 (fun e => by have e : F = L + 1 := e; omega), hOw.grw hg (fun k e => by have e : k = L + 1 := e; show k < L + 4; omega)⟩
  each := fun w T h v hx h1 hv _ _ => by
    obtain rfl : T = [] := h1 rfl
    exact first1_any O F (L + 4) hOF ⟨by omega, by omega⟩ h v w hx hv

set_option maxRecDepth 100000 in
set_option maxHeartbeats 1000000 in
theorem first_any (m : List Int) (hm : mOk m = true) (A : Option Addr) (cm sets subs : Nat) (hsets : sets ≤ 8) (hsubs : subs ≤ 4) (w : World) (hs : Sl .i8 w A m) :
    Calls Try.prog 55 #[.slice A m.length cm, .agg (i64s (haveL sets subs [])).toArray] w fun e w' => (∃ v, e = .returned (.tuple #[v, .bool (!(found m sets subs).isEmpty)]) ∧ Own w' w.heap.size 42 v (i8s ((found m sets subs).headD []))) ∧ Below w.heap.size w w' := by
  have hAw : ∀ b o, A = some ⟨b, o, none⟩ → b < w.heap.size := fun b o e => by
    obtain ⟨b', o', e', hr⟩ := hs.2 (mOk_len hm).1
    rw [e] at e'
    simp only [Option.some.injEq, Addr.mk.injEq] at e'
    rw [e'.1]
    exact World.block_lt_of_cell? w _ (hr 0 _ (i8s_get m 0 (mOk_len hm).1))
  have hho := fun O F W (hOF : O ≠ F) (hO : O < W.heap.size) (hF : F < W.heap.size) (hA : ∀ b o, A = some ⟨b, o, none⟩ → b < W.heap.size ∧ b ≠ O ∧ b ≠ F) hsl hx => hoists_any (sea1 m A cm sets subs W.heap.size O F) (sea1_ok m A cm sets subs W.heap.size O F hm hsets hsubs hOF hO hF hA) W rfl hsl hx
  have hl44 := haveL_length sets subs []
  have hvis := As.mk (show ∀ T : List (List Int), (vis true T).headD [] = T.headD [] ∧ (vis true T).isEmpty = T.isEmpty from fun T => by cases T <;> simp [vis])
  simp only [sea1] at hho
  generalize found m sets subs = T at *
  generalize haveL sets subs [] = ps at *
  have B0 : Blk (((w.alloc (.cells (i64s ps).toArray 76)).alloc (.cells #[.slice none 0 0] 23)).alloc (.cells #[.bool false] 4)) w.heap.size (i64s ps) 76 := ((Blk.mk _ _ _ rfl).alloc _).alloc _
  have B1 : Blk (((w.alloc (.cells (i64s ps).toArray 76)).alloc (.cells #[.slice none 0 0] 23)).alloc (.cells #[.bool false] 4)) (w.heap.size + 1) [.slice none 0 0] 23 := (Blk.mk _ [_] _ (by simp)).alloc _
  have B2 : Blk (((w.alloc (.cells (i64s ps).toArray 76)).alloc (.cells #[.slice none 0 0] 23)).alloc (.cells #[.bool false] 4)) (w.heap.size + 1 + 1) [.bool false] 4 := Blk.mk _ [_] _ (by simp)
  have bb := bl_new (bl_new (bl_new (Below.refl _ w) (.cells (i64s ps).toArray 76)) (.cells #[.slice none 0 0] 23)) (.cells #[.bool false] 4)
  have hh := hho (w.heap.size + 1) (w.heap.size + 1 + 1) _ (by omega) B1.lt B2.lt (fun b o e => by have := hAw b o e; have := bb.size; omega) (hs.kept bb) ⟨_, B1, B2, Own.nil _ _ _⟩
  clear hho B1 B2
  go_enter Try.func55, Try.ntmps55
  go_wp2_with (refine load_blk rfl 76 _ rfl _ rfl B0 Try.underlying76 rfl info_44 (by rw [i64s_length]; exact hl44) ?_)
  refine hh.mono ?_; rintro e w3 ⟨rfl, ⟨fv, C1, C2, hO⟩, g3⟩
  have hb4 : Below w.heap.size w w3 := g3.toBelow bb bb.size (fun k e => by rcases e with rfl | rfl <;> omega)
  rw [(hvis.out T).1] at hO
  rw [(hvis.out T).2] at C2
  have c1 := C1.at 0
  have c2 := C2.at 0
  simp only [List.getElem?_cons_zero] at c1 c2
  go_wp2_with (fail)
  go_quiet (fail)
  go_wp2_with (fail)
  go_ret2
  exact ⟨⟨_, rfl, (hO.lower (by have := bb.size; omega)).drewN _⟩, bl_drewN hb4 _⟩

set_option maxRecDepth 100000 in
set_option maxHeartbeats 1000000 in
theorem HoistFor_any (m : List Int) (rm : ∀ n ∈ m, -128 ≤ n ∧ n ≤ 127) (hn : m.length ≤ 1048576) (A : Option Addr) (cm : Nat) (sets subs : Int) (w : World) (hs : Sl .i8 w A m) :
    Calls Try.prog 17 #[.slice A m.length cm, .int .i64 sets, .int .i64 subs] w fun e w' => Gave 42 (i8s (forL m sets subs)) (forC m sets subs) w.heap.size e w' ∧ Below w.heap.size w w' := by
  have key := hoistCode_any m rm hn A cm sets subs w hs
  unfold forC forL
  by_cases h0 : askC m sets subs = 0
  · obtain ⟨hm, e1, e2, l1, l2⟩ := ask_nat h0
    have hev := fun W => even_any sets.toNat subs.toNat l1 l2 W
    have hfi := fun W h => first_any m hm A cm sets.toNat subs.toNat l1 l2 W h
    rw [if_pos h0, if_pos h0]
    rw [h0] at key
    rw [← e1, ← e2] at hev
    generalize found m sets.toNat subs.toNat = T at *
    generalize haveL sets.toNat subs.toNat [] = ps at *
    clear h0 e1 e2
    cases T with
    | nil =>
      rw [if_pos (show ([] : List (List Int)).length = 0 from rfl)]
      rw [show (!([] : List (List Int)).isEmpty) = false from rfl] at hfi
      go_enter Try.func17, Try.ntmps17
      go_wp2_with (fail)
      refine key.mono ?_; rintro e w1 ⟨rfl, hb⟩
      go_wp2_with (fail)
      refine (hev _).mono ?_; rintro e w2 ⟨rfl, hb2⟩
      go_wp2_with (fail)
      refine (hfi _ ((hs.kept hb).kept hb2)).mono ?_; rintro e w3 ⟨⟨v, rfl, hO⟩, hb3⟩
      go_wp2_with (fail)
      go_ret2
      exact ⟨⟨_, rfl, Own.nil _ _ _⟩, bl_call (bl_call hb hb2) hb3⟩
    | cons t ts =>
      rw [if_neg (show ¬ (t :: ts).length = 0 by simp)]
      rw [show (!(t :: ts).isEmpty) = true from rfl] at hfi
      go_enter Try.func17, Try.ntmps17
      go_wp2_with (fail)
      refine key.mono ?_; rintro e w1 ⟨rfl, hb⟩
      go_wp2_with (fail)
      refine (hev _).mono ?_; rintro e w2 ⟨rfl, hb2⟩
      go_wp2_with (fail)
      refine (hfi _ ((hs.kept hb).kept hb2)).mono ?_; rintro e w3 ⟨⟨v, rfl, hO⟩, hb3⟩
      go_wp2_with (fail)
      go_ret2
      exact ⟨⟨_, rfl, hO.lower (bl_call hb hb2).size⟩, bl_call (bl_call hb hb2) hb3⟩
  · rw [if_neg h0, if_neg h0]
    have h0' : (askC m sets subs != 0) = true := by rw [bne_iff_ne]; exact h0
    generalize askC m sets subs = cc at *
    go_enter Try.func17, Try.ntmps17
    go_wp2_with (fail)
    refine key.mono ?_; rintro e w1 ⟨rfl, hb⟩
    go_wp2_with (fail)
    go_ret2
    exact ⟨⟨_, rfl, Own.nil _ _ _⟩, hb⟩

set_option maxRecDepth 100000 in
set_option maxHeartbeats 1000000 in
theorem LeastSets_any (m : List Int) (rm : ∀ n ∈ m, -128 ≤ n ∧ n ≤ 127) (hn : m.length ≤ 1048576) (A : Option Addr) (cm : Nat) (subs : Int) (w : World) (hs : Sl .i8 w A m) :
    Calls Try.prog 24 #[.slice A m.length cm, .int .i64 subs] w fun e w' => e = .returned (.tuple #[.int .i64 (leastN m subs), .int .i64 (askC m 1 subs)]) ∧ Below w.heap.size w w' := by
  have key := hoistCode_any m rm hn A cm 1 subs w hs
  unfold leastN
  by_cases h0 : askC m 1 subs = 0
  · obtain ⟨hm, e1, e2, l1, l2⟩ := ask_nat h0
    have hev := fun k (hk : k < 8) W => even_any (k + 1) subs.toNat (by omega) l2 W
    have hfi := fun k (hk : k < 8) W h => first_any m hm A cm (k + 1) subs.toNat (by omega) l2 W h
    have hsv := fun j => show serve m subs.toNat j = !(found m (j + 1) subs.toNat).isEmpty from rfl
    simp only [← hsv] at hfi
    have h8 := As.mk (serve_8 hm subs.toNat)
    rw [if_pos h0]
    rw [h0] at key ⊢
    rw [← e2] at hev
    generalize serve m subs.toNat = p at *
    clear h0 e1 e2 hsv
    go_enter Try.func24, Try.ntmps24
    go_wp2_with (fail)
    refine key.mono ?_; rintro e w1 ⟨rfl, hb⟩
    go_wp2_with (fail)
    go_loopw [7] (fun i wr => ∃ k : Nat, k < 8 ∧ i = .int .i64 ((k : Int) + 1) ∧ Below w.heap.size w wr ∧ As (∀ j, j < k → p j = false)) (fun i _ => 9 - (intOf i).toNat)
    case atStart => exact ⟨0, by omega, rfl, hb, ⟨fun j hj => by omega⟩⟩
    case round =>
      obtain ⟨k, hk, rfl, hbr, H⟩ := hrel
      have hek := hev k hk
      have hfk := hfi k hk
      rw [show ((k + 1 : Nat) : Int) = (k : Int) + 1 from rfl] at hek
      generalize haveL (k + 1) subs.toNat [] = ps at *
      go_wp2_with (fail)
      refine (hek _).mono ?_; rintro e w2 ⟨rfl, hb2⟩
      go_wp2_with (fail)
      refine (hfk _ ((hs.kept hbr).kept hb2)).mono ?_; rintro e w3 ⟨⟨v, rfl, hO⟩, hb3⟩
      have hb4 := bl_call (bl_call hbr hb2) hb3
      cases hpk : p k
      · have hk7 : k < 7 := by
          rcases Nat.lt_or_ge k 7 with h | h
          · exact h
          · have : k = 7 := by omega
            rw [this, h8.out] at hpk; cases hpk
        have hpk' := As.mk hpk
        go_wp2_with (fail)
        go_roundw
        case rel => exact ⟨k + 1, by omega, by go_num, hb4, ⟨all_succ H.out hpk'.out⟩⟩
        case measure => simp [intOf]; omega
      · have hpk' := As.mk hpk
        go_wp2_with (fail)
        go_ret2
        exact ⟨ret_2 (by rw [firstIdx_hit p 8 0 k hk (by simpa using H.out) (by simpa using hpk'.out)]; simp) rfl, hb4⟩
  · rw [if_neg h0]
    have h0' : (askC m 1 subs != 0) = true := by rw [bne_iff_ne]; exact h0
    generalize askC m 1 subs = cc at *
    go_enter Try.func24, Try.ntmps24
    go_wp2_with (fail)
    refine key.mono ?_; rintro e w1 ⟨rfl, hb⟩
    go_wp2_with (fail)
    go_ret2
    exact ⟨rfl, hb⟩
theorem forL_le (m : List Int) (sets subs : Int) : (forL m sets subs).length ≤ 8 := by
  unfold forL
  split
  · rename_i h0
    obtain ⟨hm, _⟩ := askC_zero h0
    cases hT : found m sets.toNat subs.toNat with
    | nil => simp
    | cons t ts =>
      have h := look_len m sets.toNat subs.toNat m.length [] 0 t (by rw [show look m sets.toNat subs.toNat m.length [] 0 = found m sets.toNat subs.toNat from rfl, hT]; exact List.mem_cons_self)
      have := (mOk_len hm).2
      simp at h ⊢
      omega
  · simp
end Go.Proofs.Ytnokdbnlagoidaa
