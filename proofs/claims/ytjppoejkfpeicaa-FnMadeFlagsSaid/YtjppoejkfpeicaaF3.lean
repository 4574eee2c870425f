/- Contracts: CodeName, ColourName: both sides. -/
import Derived.Test.YtjppoejkfpeicaaF1
set_option linter.unusedVariables false
namespace Go.Proofs.Ytjppoejkfpeicaa
open Go.RowKit

def codeNames : List ByteArray := [⟨#[111, 107]⟩, ⟨#[105, 110, 118, 97, 108, 105, 100]⟩, ⟨#[114, 97, 110, 103, 101]⟩, ⟨#[108, 105, 109, 105, 116]⟩, ⟨#[115, 116, 97, 116, 101]⟩, ⟨#[115, 121, 110, 116, 97, 120]⟩, ⟨#[110, 111, 116, 102, 111, 117, 110, 100]⟩, ⟨#[98, 117, 100, 103, 101, 116]⟩, ⟨#[112, 114, 111, 111, 102]⟩]
def codeName (n : Int) : ByteArray := if 0 ≤ n ∧ n ≤ 8 then codeNames.getD n.toNat ⟨#[]⟩ else ⟨#[]⟩
def colourNames : List ByteArray := [⟨#[119, 104, 105, 116, 101]⟩, ⟨#[121, 101, 108, 108, 111, 119]⟩, ⟨#[114, 101, 100]⟩, ⟨#[98, 108, 117, 101]⟩, ⟨#[103, 114, 101, 101, 110]⟩, ⟨#[98, 108, 97, 99, 107]⟩]
def colourName (n : Int) : ByteArray := if 0 ≤ n ∧ n ≤ 5 then colourNames.getD n.toNat ⟨#[]⟩ else ⟨#[]⟩
theorem codeName_out (n : Int) (h : ¬ (0 ≤ n ∧ n ≤ 8)) : codeName n = ⟨#[]⟩ := by unfold codeName; rw [if_neg h]
theorem colourName_out (n : Int) (h : ¬ (0 ≤ n ∧ n ≤ 5)) : colourName n = ⟨#[]⟩ := by unfold colourName; rw [if_neg h]
theorem codeName_cell (w : World) (t : TypeId) (n : Int) (h : 0 ≤ n ∧ n ≤ 8) : (w.alloc (.cells #[.string ⟨#[111, 107]⟩, .string ⟨#[105, 110, 118, 97, 108, 105, 100]⟩, .string ⟨#[114, 97, 110, 103, 101]⟩, .string ⟨#[108, 105, 109, 105, 116]⟩, .string ⟨#[115, 116, 97, 116, 101]⟩, .string ⟨#[115, 121, 110, 116, 97, 120]⟩, .string ⟨#[110, 111, 116, 102, 111, 117, 110, 100]⟩, .string ⟨#[98, 117, 100, 103, 101, 116]⟩, .string ⟨#[112, 114, 111, 111, 102]⟩] t)).cell? ⟨w.heap.size, n.toNat, none⟩ = some (.string (codeName n)) := by
  rcases (by omega : n = 0 ∨ n = 1 ∨ n = 2 ∨ n = 3 ∨ n = 4 ∨ n = 5 ∨ n = 6 ∨ n = 7 ∨ n = 8) with rfl | rfl | rfl | rfl | rfl | rfl | rfl | rfl | rfl
  all_goals (rw [World.cell?_alloc_new]; rfl)
theorem colourName_cell (w : World) (t : TypeId) (n : Int) (h : 0 ≤ n ∧ n ≤ 5) : (w.alloc (.cells #[.string ⟨#[119, 104, 105, 116, 101]⟩, .string ⟨#[121, 101, 108, 108, 111, 119]⟩, .string ⟨#[114, 101, 100]⟩, .string ⟨#[98, 108, 117, 101]⟩, .string ⟨#[103, 114, 101, 101, 110]⟩, .string ⟨#[98, 108, 97, 99, 107]⟩] t)).cell? ⟨w.heap.size, n.toNat, none⟩ = some (.string (colourName n)) := by
  rcases (by omega : n = 0 ∨ n = 1 ∨ n = 2 ∨ n = 3 ∨ n = 4 ∨ n = 5) with rfl | rfl | rfl | rfl | rfl | rfl
  all_goals (rw [World.cell?_alloc_new]; rfl)

set_option maxHeartbeats 400000 in
theorem ColourName_any (n : Int) (w : World) : Calls Try.prog 33 #[.int .i64 n] w fun e w' => e = .returned (.string (colourName n)) ∧ Below w.heap.size w w' := by
  by_cases h : 0 ≤ n ∧ n ≤ 5
  · have c0 := colourName_cell w 9 n h
    have h0 : 0 ≤ n := h.1
    have h1 : n ≤ 5 := h.2
    have hi := (inR_iff n 0 5).2 h
    clear h
    go_enter Try.func33, Try.ntmps33
    go_wp2_with (first | (go_at_call 72; refine (isColour_any _ _).mono ?_; rintro e w' ⟨rfl, rfl⟩) | go_in)
    go_ret
    exact ⟨rfl, bl_new (Below.refl _ _) _⟩
  · rw [colourName_out n h]
    have hi := (inR_not n 0 5).2 h
    clear h
    go_enter Try.func33, Try.ntmps33
    go_wp2_with (first | (go_at_call 72; refine (isColour_any _ _).mono ?_; rintro e w' ⟨rfl, rfl⟩) | go_in)
    go_ret
    exact ⟨rfl, bl_new (Below.refl _ _) _⟩

set_option maxHeartbeats 400000 in
theorem sColourName_any (n : Int) (w : World) : Calls Try.prog 34 #[.int .i64 n] w fun e w' => e = .returned (.string (colourName n)) ∧ Below w.heap.size w w' := by
  by_cases h : 0 ≤ n ∧ n ≤ 5
  · have c0 := colourName_cell w 9 n h
    have h0 : 0 ≤ n := h.1
    have h1 : n ≤ 5 := h.2
    have hi := (inR_iff n 0 5).2 h
    clear h
    go_enter Try.func34, Try.ntmps34
    go_wp2_with (first | (go_at_call 67; refine (l01Colour_any _ _).mono ?_; rintro e w' ⟨rfl, rfl⟩) | go_in)
    go_ret
    exact ⟨rfl, bl_new (Below.refl _ _) _⟩
  · rw [colourName_out n h]
    have hi := (inR_not n 0 5).2 h
    clear h
    go_enter Try.func34, Try.ntmps34
    go_wp2_with (first | (go_at_call 67; refine (l01Colour_any _ _).mono ?_; rintro e w' ⟨rfl, rfl⟩) | go_in)
    go_ret
    exact ⟨rfl, bl_new (Below.refl _ _) _⟩
end Go.Proofs.Ytjppoejkfpeicaa
