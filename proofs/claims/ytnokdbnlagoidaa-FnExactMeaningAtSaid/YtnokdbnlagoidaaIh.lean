/- Contract: (impl.Meaning).hoists$1: the search (impl): the leaf and the break. -/
import Derived.Test.YtnokdbnlagoidaaPc
import Derived.Test.YtnokdbnlagoidaaGw
import Derived.Test.YtnokdbnlagoidaaH7
set_option linter.unusedVariables false
namespace Go.Proofs.Ytnokdbnlagoidaa
open Go.RowKit

/-- A search: what it is asked for, and the function that is called for each hoist. -/
structure Sea where
  m : List Int
  A : Option Addr
  cm : Nat
  sets : Nat
  subs : Nat
  L : Nat
  g : Nat
  lb : Array Value
  one : Bool
  R : Nat → Prop
  X : World → List (List Int) → Prop
def vis (one : Bool) (T : List (List Int)) : List (List Int) := if one then T.take 1 else T
def goes (one : Bool) (T : List (List Int)) : Bool := !(one && !T.isEmpty)
/-- What the search turns: the pieces, and what the function turns. -/
def Sea.S (s : Sea) (k : Nat) : Prop := k = s.L + 1 ∨ s.R k
/-- A hoist on its way. -/
def Hv (L : Nat) (w : World) (v : Value) (h : List Int) : Prop := Own w (L + 4) 42 v (i8s h)
/-- The search's memory. -/
structure J (s : Sea) (w : World) (T : List (List Int)) (h : List Int) : Prop where
  m0 : w.cell? ⟨s.L, 0, none⟩ = some (.slice s.A s.m.length s.cm)
  pcs : Blk w (s.L + 1) (i64s (haveL s.sets s.subs h)) 76
  each : w.cell? ⟨s.L + 2, 0, none⟩ = some (.func (.func s.g) #[] s.lb)
  self : w.cell? ⟨s.L + 3, 0, none⟩ = some (.func (.func 91) #[] #[.pointer (some ⟨s.L, 0, none⟩), .pointer (some ⟨s.L + 2, 0, none⟩), .pointer (some ⟨s.L + 3, 0, none⟩), .pointer (some ⟨s.L + 1, 0, none⟩)])
  mean : Sl .i8 w s.A s.m
  x : s.X w T
structure SeaOk (s : Sea) : Prop where
  kinds : ∀ k, k < s.m.length → nth s.m k = -10 ∨ (0 ≤ nth s.m k ∧ nth s.m k ≤ 39)
  pos : 1 ≤ s.m.length
  len : s.m.length ≤ 8
  subs : s.subs ≤ 4
  sets : s.sets ≤ 8
  low : ∀ b o, s.A = some ⟨b, o, none⟩ → b < s.L ∧ ¬ s.R b
  rl : ∀ k, s.R k → k < s.L
  enters : ∀ args w, (callFunc s.g args).run Try.prog w = .ok (.enter s.g args) w
  stab : ∀ w w' T, s.X w T → Grw (fun k => k = s.L + 1) w w' → s.X w' T
  each : ∀ w T h v, s.X w T → (s.one = true → T = []) → Hv s.L w v h → h.length = s.m.length → T.length ≤ 999999 →
    Calls Try.prog s.g (#[v] ++ s.lb) w fun e w' => e = .returned (.bool (!s.one)) ∧ s.X w' (T ++ [h]) ∧ Grw s.R w w'
section
variable {s : Sea} {w w' : World} {T : List (List Int)} {h : List Int} {v : Value} {L : Nat}
theorem Own.grw {S : Nat → Prop} {base : Nat} {e : TypeId} {cs : List Value} (hO : Own w base e v cs) (hg : Grw S w w') (hs : ∀ k, S k → k < base) : Own w' base e v cs := by
  obtain ⟨h1, h2⟩ := hO
  refine ⟨h1, ?_⟩
  rcases h2 with h2 | ⟨g, cap, cur, rfl, hgb, hh, r⟩
  · exact .inl h2
  · exact .inr ⟨g, cap, cur, rfl, hgb, (hg.block g (Array.getElem?_eq_some_iff.1 hh).1 (fun e => by have := hs g e; omega)).trans hh, r⟩
theorem Hv.grw {S : Nat → Prop} (hv : Hv L w v h) (hg : Grw S w w') (hs : ∀ k, S k → k < L + 4) : Hv L w' v h := Own.grw hv hg hs
theorem Hv.of_own {base : Nat} (hO : Own w base 42 v (i8s h)) (hb : L + 4 ≤ base) (hp : 0 < h.length) : Hv L w v h := hO.lower hb
theorem SeaOk.sl (ok : SeaOk s) (k : Nat) (hk : s.S k) : k < s.L + 4 := by
  rcases hk with rfl | hk
  · omega
  · have := ok.rl k hk; omega
theorem J.sl {S : Nat → Prop} (j : J s w T h) (hg : Grw S w w') (hs : ∀ b o, s.A = some ⟨b, o, none⟩ → ¬ S b) : Sl .i8 w' s.A s.m :=
  And.intro j.mean.1 fun hp => by obtain ⟨b, o, e, hr⟩ := j.mean.2 hp; exact ⟨b, o, e, hg.range hr (hs b o e)⟩
/-- New memory alone. -/
theorem J.kept (ok : SeaOk s) (j : J s w T h) (hb : Below w.heap.size w w') : J s w' T h :=
  have hg : Grw (fun k => False) w w' := Grw.below hb
  ⟨hg.cell j.m0 (fun e => e), hg.blk j.pcs (fun e => e), hg.cell j.each (fun e => e), hg.cell j.self (fun e => e), j.sl hg (fun _ _ _ e => e), ok.stab _ _ _ j.x (Grw.below hb)⟩
/-- The pieces are turned. -/
theorem J.pieces (ok : SeaOk s) (j : J s w T h) {h' : List Int} (hB : Blk w' (s.L + 1) (i64s (haveL s.sets s.subs h')) 76) (hg : w.grownBy w' (some (s.L + 1))) : J s w' T h' := by
  have hg : Grw (fun k => k = s.L + 1) w w' := Grw.grown hg rfl
  refine ⟨hg.cell j.m0 (by simp), hB, hg.cell j.each (by simp), hg.cell j.self (by simp), j.sl hg (fun b o e => ?_), ok.stab _ _ _ j.x hg⟩
  have := (ok.low b o e).1
  omega
/-- The function has been called. -/
theorem J.called (ok : SeaOk s) (j : J s w T h) {T' : List (List Int)} (hx : s.X w' T') (hg : Grw s.R w w') : J s w' T' h := by
  have hr : ∀ k, s.L ≤ k → ¬ s.R k := fun k hk e => by have := ok.rl k e; omega
  exact ⟨hg.cell j.m0 (hr _ (by simp)), hg.blk j.pcs (hr _ (by simp)), hg.cell j.each (hr _ (by simp)), hg.cell j.self (hr _ (by simp)), j.sl hg (fun b o e => (ok.low b o e).2), hx⟩
end
set_option maxRecDepth 100000 in
theorem CloneH_hv (L : Nat) (h : List Int) (v : Value) (w : World) (hv : Hv L w v h) (hn : h.length ≤ 8) :
    Calls Try.prog 92 #[v] w fun e w' => ∃ u, e = .returned u ∧ Own w' w.heap.size 42 u (i8s h) ∧ Below w.heap.size w w' := by
  rcases Own.form hv with ⟨rfl, hn0⟩ | ⟨g, c, rfl, _, _, hr, _⟩
  · obtain rfl : h = [] := by simpa [i8s] using hn0
    have he : ∀ W : World, (binOp .eql 23 (.slice none 0 0) (.slice none 0 0)).run Try.prog W = .ok (.bool true) W := fun _ => rfl
    go_enter Try.func92, Try.ntmps92
    go_wp2_with (fail)
    go_ret
    exact ⟨_, rfl, Own.nil _ _ _, Below.refl _ _⟩
  · rw [i8s_length]
    refine (CloneH_any h g 0 c w hr (by omega)).mono ?_
    rintro e w' ⟨⟨u, e1, h1⟩, h2⟩
    exact ⟨u, e1, h1, h2⟩

/-- The search keeps its contract where d numbers are still to come. -/
def ChOk (s : Sea) (d : Nat) : Prop := ∀ (h : List Int) (g : Nat) (T : List (List Int)), h.length + d = s.m.length → g ≤ h.length → Way s.sets s.subs h → (s.one = true → T = []) → T.length + (look s.m s.sets s.subs d h g).length ≤ 999999 →
  ∀ (w : World) (v : Value), J s w T h → Hv s.L w v h →
    Calls Try.prog 91 #[v, .int .i64 g, .pointer (some ⟨s.L, 0, none⟩), .pointer (some ⟨s.L + 2, 0, none⟩), .pointer (some ⟨s.L + 3, 0, none⟩), .pointer (some ⟨s.L + 1, 0, none⟩)] w fun e w' =>
      e = .returned (.bool (goes s.one (look s.m s.sets s.subs d h g))) ∧ J s w' (T ++ vis s.one (look s.m s.sets s.subs d h g)) h ∧ Grw s.S w w'
def Hlen (v : Value) (n : Nat) : Prop := ∃ A c, v = .slice A n c
theorem Hv.len {L : Nat} {w : World} {v : Value} {h : List Int} (hv : Hv L w v h) : Hlen v h.length := by
  obtain ⟨A, c, e⟩ := Own.slice hv
  rw [i8s_length] at e
  exact ⟨A, c, e⟩

set_option maxRecDepth 100000 in
set_option maxHeartbeats 2000000 in
theorem ch_leaf (s : Sea) (ok : SeaOk s) : ChOk s 0 := by
  intro h g T hd hg hway hone hT w v hj hv
  have hTl : T.length ≤ 999999 := by have : (look s.m s.sets s.subs 0 h g).length = 1 := rfl; omega
  have key := ok.each w T h v hj.x hone hv (by omega) hTl
  have e0 := hj.each
  have m0 := hj.m0
  have eg := ok.enters
  obtain ⟨A, c, rfl⟩ := hv.len
  rw [Nat.add_zero] at hd
  rw [← hd] at m0
  have hd' := As.mk hd
  have hl8 := ok.len
  rw [← hd] at hl8
  have hgo := As.mk (show goes s.one (look s.m s.sets s.subs 0 h g) = !s.one by unfold goes look; simp)
  have hvi := As.mk (show vis s.one (look s.m s.sets s.subs 0 h g) = [h] by unfold vis look; cases s.one <;> rfl)
  generalize hlk : look s.m s.sets s.subs 0 h g = lk at *
  clear hlk hd hT
  go_enter Try.func91, Try.ntmps91
  go_wp2_with (refine key.mono ?_; rintro e w1 ⟨rfl, hX, hG⟩)
  go_ret
  exact ⟨ret_b hgo.out.symm, by rw [hvi.out]; exact hj.called ok hX hG, hG.wider (fun k hk => .inr hk)⟩
end Go.Proofs.Ytnokdbnlagoidaa
