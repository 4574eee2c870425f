/- Contract: spec.l02Look: the search (spec). -/
import Derived.Test.YtnokdbnlagoidaaSq
import Derived.Test.YtnokdbnlagoidaaH4
import Derived.Test.YtnokdbnlagoidaaOn
import Derived.Test.YtnokdbnlagoidaaLs
import Derived.Test.YtnokdbnlagoidaaLw
set_option linter.unusedVariables false
namespace Go.Proofs.Ytnokdbnlagoidaa
open Go.RowKit

theorem results_none' {fn : Func} (h : fn.results = #[]) (tmps : Array Value) (P : Program) (w : World) : (results fn tmps).run P w = .ok (.tuple #[]) w := by simp [results, h]

/-- The meaning's slice, in a block below B. -/
def Msl (w : World) (B : Nat) (A : Option Addr) (m : List Int) : Prop := m.length ≤ 9223372036854775807 ∧ (0 < m.length → ∃ b o, A = some ⟨b, o, none⟩ ∧ b < B ∧ w.rangeAt b o (i8s m))
/-- A hoist's slice, in a block above B. -/
def Hsl (w : World) (B : Nat) (v : Value) (h : List Int) : Prop := ∃ g c, v = .slice (some ⟨g, 0, none⟩) h.length c ∧ B < g ∧ w.rangeAt g 0 (i8s h)
/-- The first hoist that was found, if one was. -/
def FirstV (w : World) (B : Nat) (fv : Value) (T : List (List Int)) : Prop := (T = [] ∧ fv = .slice none 0 0) ∨ ∃ f r, T = f :: r ∧ Own w (B + 1) 42 fv (i8s f)
def stCells (A : Option Addr) (m : List Int) (cm sets subs n : Nat) (fv : Value) : List Value := [.slice A m.length cm, .int .i64 sets, .int .i64 subs, .int .i64 n, fv]
/-- The search's record. -/
def St (w : World) (B : Nat) (A : Option Addr) (cm : Nat) (m : List Int) (sets subs : Nat) (T : List (List Int)) : Prop :=
  Msl w B A m ∧ ∃ fv, Blk w B (stCells A m cm sets subs T.length fv) 70 ∧ FirstV w B fv T

section
variable {w w' : World} {B : Nat} {A : Option Addr} {cm : Nat} {m h : List Int} {sets subs : Nat} {T : List (List Int)} {v fv : Value}
theorem grown_of_below {row : Option Nat} (hb : Below w.heap.size w w') : w.grownBy w' row := ⟨hb.os, hb.tape, hb.output, hb.size, fun k hk _ => hb.block k hk⟩
theorem range_grown {b o : Nat} {cs : List Value} (hr : w.rangeAt b o cs) (hg : w.grownBy w' (some B)) (hne : b ≠ B) : w'.rangeAt b o cs := fun j v hv =>
  hg.cell (hr j v hv) (by simp only [ne_eq, Option.some.injEq]; exact hne)
theorem Msl.grown (hm : Msl w B A m) (hg : w.grownBy w' (some B)) : Msl w' B A m :=
  And.intro hm.1 fun hp => by obtain ⟨b, o, e, hl, hr⟩ := hm.2 hp; exact ⟨b, o, e, hl, range_grown hr hg (by omega)⟩
theorem Hsl.grown (hh : Hsl w B v h) (hg : w.grownBy w' (some B)) : Hsl w' B v h := by
  obtain ⟨g, c, e, hl, hr⟩ := hh
  exact ⟨g, c, e, hl, range_grown hr hg (by omega)⟩
theorem FirstV.grown (hf : FirstV w B fv T) (hg : w.grownBy w' (some B)) : FirstV w' B fv T := by
  rcases hf with hf | ⟨f, r, e, hO⟩
  · exact .inl hf
  · refine .inr ⟨f, r, e, hO.grown hg ?_⟩
    cases hv : fv.ownBlock with
    | none => exact .inl rfl
    | some k =>
      refine .inr fun e' => ?_
      simp only [Option.some.injEq] at e'
      have := hO.ge k hv
      omega
theorem St.kept (hs : St w B A cm m sets subs T) (hb : Below w.heap.size w w') : St w' B A cm m sets subs T := by
  obtain ⟨hm, fv, hB, hf⟩ := hs
  have hg : w.grownBy w' (some B) := grown_of_below hb
  exact ⟨hm.grown hg, fv, hB.kept hb, hf.grown hg⟩
theorem Hsl.of_own {base : Nat} (hO : Own w base 42 v (i8s h)) (hB : B < base) (hp : 0 < h.length) : Hsl w B v h := by
  rcases hO.form with ⟨_, hn⟩ | ⟨g, c, rfl, hg, _, hr, _⟩
  · have : h = [] := by simpa [i8s] using hn
    rw [this] at hp; simp at hp
  · exact ⟨g, c, by rw [i8s_length], by omega, hr⟩
end

/-- What is left to be tried: the substitutes from the q-th down and the kind; nothing. -/
def restOf (m : List Int) (sets subs d : Nat) (h : List Int) (g : Nat) : Nat → List (List Int)
  | 0 => []
  | q + 1 => ((optsAt m h.length g q).filter (enough sets h)).flatMap fun x => look m sets subs d (h ++ [x]) g
theorem rest_zero {m : List Int} {sets subs d : Nat} {h : List Int} {g : Nat} :
    restOf m sets subs d h g 1 = if enough sets h (nth m h.length) then look m sets subs d (h ++ [nth m h.length]) g else [] := by
  show (([] ++ [nth m h.length]).filter (enough sets h)).flatMap _ = _
  rw [List.nil_append, List.filter_cons]
  split <;> simp
theorem rest_t {m : List Int} {sets subs d : Nat} {h : List Int} {g q : Nat} (hs : subAt m h.length g (q + 1) = true) :
    restOf m sets subs d h g (q + 2) = (if enough sets h (-((q + 1 : Nat) : Int)) then look m sets subs d (h ++ [-((q + 1 : Nat) : Int)]) g else []) ++ restOf m sets subs d h g (q + 1) := by
  show ((optsAt m h.length g (q + 1)).filter (enough sets h)).flatMap _ = _ ++ ((optsAt m h.length g q).filter (enough sets h)).flatMap _
  unfold optsAt
  rw [show subsAt m h.length g (q + 1) = (if subAt m h.length g (q + 1) then [-((q + 1 : Nat) : Int)] else []) ++ subsAt m h.length g q from rfl, hs, if_pos rfl]
  rw [List.append_assoc, List.filter_append, List.flatMap_append, List.filter_cons]
  congr 1
  split <;> simp
theorem rest_f {m : List Int} {sets subs d : Nat} {h : List Int} {g q : Nat} (hs : subAt m h.length g (q + 1) = false) :
    restOf m sets subs d h g (q + 2) = restOf m sets subs d h g (q + 1) := by
  show ((optsAt m h.length g (q + 1)).filter (enough sets h)).flatMap _ = ((optsAt m h.length g q).filter (enough sets h)).flatMap _
  unfold optsAt
  rw [show subsAt m h.length g (q + 1) = (if subAt m h.length g (q + 1) then [-((q + 1 : Nat) : Int)] else []) ++ subsAt m h.length g q from rfl, hs]
  simp

theorem St.cell {w : World} {B : Nat} {A : Option Addr} {cm : Nat} {m : List Int} {sets subs n : Nat} {fv : Value} (hB : Blk w B (stCells A m cm sets subs n fv) 70) :
    w.cell? ⟨B, 0, none⟩ = some (.slice A m.length cm) ∧ w.cell? ⟨B, 1, none⟩ = some (.int .i64 sets) ∧ w.cell? ⟨B, 2, none⟩ = some (.int .i64 subs) ∧ w.cell? ⟨B, 3, none⟩ = some (.int .i64 n) ∧ w.cell? ⟨B, 4, none⟩ = some fv :=
  ⟨by rw [hB.at]; rfl, by rw [hB.at]; rfl, by rw [hB.at]; rfl, by rw [hB.at]; rfl, by rw [hB.at]; rfl⟩

theorem grow_set {w w1 : World} {B : Nat} (h : w.grownBy w1 (some B)) (i : Nat) (v : Value) : w.grownBy (w1.setCell ⟨B, i, none⟩ v) (some B) :=
  ⟨h.os, h.tape, h.output, by simpa [World.setCell] using h.size, fun k hk hne => by rw [← h.block k hk hne]; exact heap_setCell_other w1 ⟨B, i, none⟩ k v (fun e => hne (by rw [e]))⟩
set_option maxRecDepth 100000 in
set_option maxHeartbeats 2000000 in
/-- The end of a hoist: it is counted, and kept if it is the first one. -/
theorem look_end (m : List Int) (A : Option Addr) (cm sets subs B : Nat) (h : List Int) (hl : h.length = m.length) (h8 : m.length ≤ 8) (g : Nat) (T : List (List Int)) (hT : T.length ≤ 1000000) (w : World) (v : Value) (hs : St w B A cm m sets subs T) (hh : Hsl w B v h) :
    Calls Try.prog 87 #[.pointer (some ⟨B, 0, none⟩), v, .int .i64 g] w fun e w' => e = .returned (.tuple #[]) ∧ St w' B A cm m sets subs (T ++ [h]) ∧ w.grownBy w' (some B) := by
  obtain ⟨hm, fv, hB, hf⟩ := hs
  obtain ⟨k0, k1, k2, k3, k4⟩ := St.cell hB
  obtain ⟨gb, c, rfl, hgB, hr⟩ := hh
  have hlt := hB.lt
  have f3 := hB.frozen 3
  have f4 := hB.frozen 4
  have hlen := i8s_length h
  have hl1 : h.length ≤ 8 := by omega
  obtain ⟨n, hn⟩ : ∃ n, h.length = n := ⟨_, rfl⟩
  have HN := As.mk hn
  unfold stCells at hB
  rw [hl.symm, hn] at k0 hB
  have hMl := As.mk hl
  rw [hn] at hl1 hlen ⊢
  clear hl hn
  cases T with
  | nil =>
    have hO := Own.lit w w.heap.size 42 [] (Nat.le_refl _) (by simp)
    have hb' := bl_new (Below.refl _ w) (.cells #[] 42)
    have hr' : (w.alloc (.cells #[] 42)).rangeAt gb 0 (i8s h) := range_below hr hb'
    go_enter Try.func87, Try.ntmps87
    go_wp2_with (at_builtin; refine appN (w0 := w) (w.heap.size) rfl (.tmp 25) (.tmp 26) 23 42 (.int .i8 0) 1 rfl Try.underlying23 info_i8 rfl (by omega) (.slice (some ⟨w.heap.size, 0, none⟩) 0 0) [] (i8s h) gb 0 c n rfl rfl hlen (i8s_one _) hO hr' hb' hb'.size (by simp; omega) ?_)
    intro v1 w1 hO1 hb1 _ _
    have hO1 : Own w1 w.heap.size 42 v1 (i8s h) := hO1
    have hB1 := hB.kept hb1
    have e3 : w1.cell? ⟨B, 3, none⟩ = some (.int .i64 0) := by rw [hB1.at]; rfl
    have e4 : w1.cell? ⟨B, 4, none⟩ = some fv := by rw [hB1.at]; rfl
    have g3 := hB1.frozen 3
    have g4 := hB1.frozen 4
    have hS := (hB1.set 4 v1).set 3 (.int .i64 1)
    have hg := grow_set (grow_set (grown_of_below (row := some B) hb1) 4 v1) 3 (.int .i64 1)
    obtain ⟨A1, c1, rfl, S1⟩ := hO1.sl
    have hOf : Own ((w1.setCell ⟨B, 4, none⟩ (.slice A1 h.length c1)).setCell ⟨B, 3, none⟩ (.int .i64 1)) (B + 1) 42 (.slice A1 h.length c1) (i8s h) := by
      have hg2 := grow_set (grow_set (World.grownBy.refl w1 (some B)) 4 (.slice A1 h.length c1)) 3 (.int .i64 1)
      refine (hO1.grown hg2 ?_).lower (by omega)
      cases hv : (Value.slice A1 h.length c1).ownBlock with
      | none => exact .inl rfl
      | some k =>
        refine .inr fun e' => ?_
        simp only [Option.some.injEq] at e'
        have := hO1.ge k hv
        omega
    go_wp2_with (fail)
    refine bodyPost_ret (results_none' rfl _ _ _) rfl ?_
    refine ⟨rfl, ⟨hm.grown hg, .slice A1 h.length c1, ?_, .inr ⟨h, [], rfl, hOf⟩⟩, hg⟩
    unfold stCells
    rw [← hMl.out, HN.out]
    rw [HN.out] at hS
    exact hS
  | cons t ts =>
    rw [List.length_cons] at k3 hB hT
    have hne : (((ts.length + 1 : Nat) : Int) == 0) = false := by rw [beq_eq_false_iff_ne]; omega
    have hT' : ((ts.length + 1 : Nat) : Int) ≤ 1000000 := by omega
    have hS := hB.set 3 (.int .i64 (((ts.length + 1 + 1 : Nat)) : Int))
    have hg := grow_set (World.grownBy.refl w (some B)) 3 (.int .i64 (((ts.length + 1 + 1 : Nat)) : Int))
    have he : (((ts.length + 1 + 1 : Nat)) : Int) = ((ts.length + 1 : Nat) : Int) + 1 := by omega
    rw [he] at hS hg
    have HE := As.mk he
    clear he
    have hlen2 := As.mk (show (t :: (ts ++ [h])).length = ts.length + 1 + 1 by simp)
    generalize hz : ((ts.length + 1 : Nat) : Int) = z at *
    go_enter Try.func87, Try.ntmps87
    go_wp2_with (fail)
    refine bodyPost_ret (results_none' rfl _ _ _) rfl ?_
    refine ⟨rfl, ⟨hm.grown hg, fv, ?_, ?_⟩, hg⟩
    · unfold stCells
      rw [← hMl.out, HN.out, hlen2.out, HE.out]
      exact hS
    · rcases hf with ⟨h1, _⟩ | ⟨f, r, h1, hO⟩
      · cases h1
      · refine FirstV.grown (.inr ⟨f, r ++ [h], by injection h1 with a b; rw [a, b], hO⟩) hg
end Go.Proofs.Ytnokdbnlagoidaa
