/- Contracts: FindPhrase (both sides). -/
import Derived.Test.YtnokdbnlagoidaaVb
set_option linter.unusedVariables false
namespace Go.Proofs.Ytnokdbnlagoidaa
open Go.RowKit

def fphN (b : Bok) (s : ByteArray) : Int := if okB b then (if findS b.ps s < 0 then 0 else findS b.ps s) else 0
def fphC (b : Bok) (s : ByteArray) : Int := if okB b then (if findS b.ps s < 0 then 6 else 0) else 1
set_option maxRecDepth 100000 in
set_option maxHeartbeats 4000000 in
theorem sFindPhrase_any (b : Bok) (hr : bokR b) (A : Option Addr) (c : Nat) (s : ByteArray) (hs : s.size ≤ maxLen) (w : World) (h : SlS w A b.ps) :
    Calls Try.prog 40 #[bok b A c, .string s] w fun e w' => e = .returned (.tuple #[.int .i64 (fphN b s), .int .i64 (fphC b s)]) ∧ Below w.heap.size w w' := by
  have bb := bl_new (Below.refl _ w) (.cells (bokC b A c).toArray 48)
  have B0 := Blk.mk w (bokC b A c) 48 rfl
  have g0 := h.kept bb
  have key := l03Ok_any b hr A c _ _ B0 g0
  have key2 := fun W hb hs => l03Find_any b s A c w.heap.size W hb hs
  have hrg := findS_range b.ps s
  have hbig := h.1
  unfold fphN fphC bok
  generalize bokC b A c = cs at *
  generalize findS b.ps s = r at *
  cases hz : okB b
  · rw [hz] at key
    clear key2
    go_enter Try.func40, Try.ntmps40
    go_wp2_with (fail)
    refine key.mono ?_; rintro e w1 ⟨rfl, hb⟩
    go_wp2_with (fail)
    go_ret2
    exact ⟨rfl, bl_call bb hb⟩
  · rw [hz] at key
    clear hz
    simp only [if_true]
    by_cases h0 : r < 0
    all_goals
      simp only [h0, if_true, if_false]
      go_enter Try.func40, Try.ntmps40
      go_wp2_with (fail)
      refine key.mono ?_; rintro e w1 ⟨rfl, hb⟩
      have k2 := key2 w1 (B0.kept hb) (g0.kept hb)
      go_wp2_with (fail)
      refine k2.mono ?_; rintro e w2 ⟨rfl, rfl⟩
      go_wp2_with (fail)
      go_ret2
      exact ⟨rfl, bl_call bb hb⟩
set_option maxRecDepth 100000 in
set_option maxHeartbeats 4000000 in
theorem FindPhrase_any (b : Bok) (hr : bokR b) (A : Option Addr) (c : Nat) (s : ByteArray) (hs : s.size ≤ maxLen) (w : World) (h : SlS w A b.ps) (hc : b.ps.length ≤ c) :
    Calls Try.prog 41 #[bok b A c, .string s] w fun e w' => e = .returned (.tuple #[.int .i64 (fphN b s), .int .i64 (fphC b s)]) ∧ Below w.heap.size w w' := by
  have bb := bl_new (Below.refl _ w) (.cells (bokC b A c).toArray 48)
  have B0 := Blk.mk w (bokC b A c) 48 rfl
  have g0 := h.kept bb
  have key := ValidBook_any b hr A c _ g0 hc
  have key2 := fun W hs => IndexS_any b.ps s A b.ps.length c rfl W hs
  have hrg := findS_range b.ps s
  have hbig := h.1
  have lb := bokC_length b A c
  have c3 : ∀ W, Blk W w.heap.size (bokC b A c) 48 → W.cell? ⟨w.heap.size, 3, none⟩ = some (.slice A b.ps.length c) := fun W hW => by rw [hW.at]; rfl
  unfold fphN fphC bok
  unfold bok at key
  generalize bokC b A c = cs at *
  generalize findS b.ps s = r at *
  generalize b.ps.length = n at *
  cases hz : okB b
  · rw [hz] at key
    clear key2
    go_enter Try.func41, Try.ntmps41
    go_wp2_with (refine load_blk rfl 48 _ rfl _ rfl B0 Try.underlying48 rfl info_ib lb ?_)
    refine key.mono ?_; rintro e w1 ⟨rfl, hb⟩
    go_wp2_with (fail)
    go_ret2
    exact ⟨rfl, bl_call bb hb⟩
  · rw [hz] at key
    clear hz
    simp only [if_true]
    by_cases h0 : r < 0
    all_goals
      simp only [h0, if_true, if_false]
      go_enter Try.func41, Try.ntmps41
      go_wp2_with (refine load_blk rfl 48 _ rfl _ rfl B0 Try.underlying48 rfl info_ib lb ?_)
      refine key.mono ?_; rintro e w1 ⟨rfl, hb⟩
      have k2 := key2 w1 (g0.kept hb)
      have cc := c3 w1 (B0.kept hb)
      clear c3
      go_wp2_with (fail)
      refine k2.mono ?_; rintro e w2 ⟨rfl, rfl⟩
      go_wp2_with (fail)
      go_ret2
      exact ⟨rfl, bl_call bb hb⟩
end Go.Proofs.Ytnokdbnlagoidaa
