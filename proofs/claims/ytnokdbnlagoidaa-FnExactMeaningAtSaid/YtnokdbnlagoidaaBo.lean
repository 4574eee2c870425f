/- Contracts: a book's sizes, its room (both sides). -/
import Derived.Test.YtnokdbnlagoidaaMi
import Derived.Test.YtnokdbnlagoidaaL24
set_option linter.unusedVariables false
namespace Go.Proofs.Ytnokdbnlagoidaa
open Go.RowKit

def szd (b : Bok) : Bool := inR b.k 1 10 && (inR b.l 1 3 && inR b.s 0 4)
theorem szd_nat {b : Bok} (h : szd b = true) : ∃ K L S : Nat, (1 ≤ K ∧ K ≤ 10) ∧ (1 ≤ L ∧ L ≤ 3) ∧ S ≤ 4 ∧ b.k = K ∧ b.l = L ∧ b.s = S := by
  unfold szd at h
  rw [Bool.and_eq_true, Bool.and_eq_true, inR_iff, inR_iff, inR_iff] at h
  exact ⟨b.k.toNat, b.l.toNat, b.s.toNat, by omega, by omega, by omega, by omega, by omega, by omega⟩
set_option maxRecDepth 100000 in
set_option maxHeartbeats 1000000 in
theorem l03Sized_any (b : Bok) (hr : bokR b) (A : Option Addr) (c P : Nat) (w : World) (hB : Blk w P (bokC b A c) 48) :
    Calls Try.prog 69 #[.pointer (some ⟨P, 0, none⟩)] w fun e w' => e = .returned (.bool (szd b)) ∧ w = w' := by
  have hS := As.mk (show szd b = (inR b.k 1 10 && (inR b.l 1 3 && inR b.s 0 4)) from rfl)
  have c0 := hB.at 0
  have c1 := hB.at 1
  have c2 := hB.at 2
  obtain ⟨⟨k0, k1⟩, ⟨l0, l1⟩, s0, s1⟩ := hr
  unfold bokC at c0 c1 c2
  simp only [List.getElem?_cons_zero, List.getElem?_cons_succ] at c0 c1 c2
  clear hB
  cases h1 : inR b.k 1 10
  · go_enter Try.func69, Try.ntmps69
    go_wp2_with (go_at_call 59; refine (l00In_any _ _ _ _).mono ?_; rintro e w' ⟨rfl, rfl⟩)
    go_ret
    exact ⟨ret_b (by rw [hS.out, h1]; rfl), rfl⟩
  · cases h2 : inR b.l 1 3
    · go_enter Try.func69, Try.ntmps69
      go_wp2_with (go_at_call 59; refine (l00In_any _ _ _ _).mono ?_; rintro e w' ⟨rfl, rfl⟩)
      go_ret
      exact ⟨ret_b (by rw [hS.out, h1, h2]; rfl), rfl⟩
    · cases h3 : inR b.s 0 4
      all_goals
        go_enter Try.func69, Try.ntmps69
        go_wp2_with (go_at_call 59; refine (l00In_any _ _ _ _).mono ?_; rintro e w' ⟨rfl, rfl⟩)
        go_ret
        exact ⟨ret_b (by rw [hS.out, h1, h2, h3]; rfl), rfl⟩
set_option maxRecDepth 100000 in
set_option maxHeartbeats 1000000 in
theorem isFrame_any (b : Bok) (hr : bokR b) (A : Option Addr) (c : Nat) (w : World) :
    Calls Try.prog 71 #[bok b A c] w fun e w' => e = .returned (.bool (szd b)) ∧ Below w.heap.size w w' := by
  have hS := As.mk (show szd b = (inR b.k 1 10 && (inR b.l 1 3 && inR b.s 0 4)) from rfl)
  have bb := bl_new (Below.refl _ w) (.cells (bokC b A c).toArray 48)
  obtain ⟨⟨k0, k1⟩, ⟨l0, l1⟩, s0, s1⟩ := hr
  unfold bok
  unfold bokC at *
  cases h1 : inR b.k 1 10
  · go_enter Try.func71, Try.ntmps71
    go_wp2_with (go_at_call 61; refine (within_any _ _ _ _).mono ?_; rintro e w' ⟨rfl, rfl⟩)
    go_ret
    exact ⟨ret_b (by rw [hS.out, h1]; rfl), bb⟩
  · cases h2 : inR b.l 1 3
    · go_enter Try.func71, Try.ntmps71
      go_wp2_with (go_at_call 61; refine (within_any _ _ _ _).mono ?_; rintro e w' ⟨rfl, rfl⟩)
      go_ret
      exact ⟨ret_b (by rw [hS.out, h1, h2]; rfl), bb⟩
    · cases h3 : inR b.s 0 4
      all_goals
        go_enter Try.func71, Try.ntmps71
        go_wp2_with (go_at_call 61; refine (within_any _ _ _ _).mono ?_; rintro e w' ⟨rfl, rfl⟩)
        go_ret
        exact ⟨ret_b (by rw [hS.out, h1, h2, h3]; rfl), bb⟩

theorem sizeM_any (A : Option Addr) (n c : Nat) (w : World) : Calls Try.prog 72 #[.slice A n c] w fun e w' => e = .returned (.int .i64 n) ∧ w = w' := by
  go_enter Try.func72, Try.ntmps72
  go_wp2
  go_ret
  exact ⟨rfl, rfl⟩

/-- All meanings of a book. -/
def outB (b : Bok) : List (List Int) := outs b.k.toNat b.s.toNat b.l.toNat
theorem outB_le {b : Bok} (h : szd b = true) : (outB b).length ≤ 3000 := by
  obtain ⟨K, L, S, hK, hL, hS, e1, e2, e3⟩ := szd_nat h
  unfold outB
  rw [e1, e2, e3]
  have := outs_le K S hK.2 L hL.2
  simp only [Int.toNat_natCast]
  omega
theorem outB_mem {b : Bok} (h : szd b = true) : ∀ m ∈ outB b, 1 ≤ m.length ∧ m.length ≤ 3 ∧ ∀ x ∈ m, 0 ≤ x ∧ x ≤ 39 := fun m hm => by
  obtain ⟨K, L, S, hK, hL, hS, e1, e2, e3⟩ := szd_nat h
  unfold outB at hm
  rw [e1, e2, e3] at hm
  have := outs_mem K S L m hm
  exact ⟨this.1, by omega, fun x hx => by have := this.2.2 x hx; omega⟩
theorem sMeanings_any (b : Bok) (hz : szd b = true) (A : Option Addr) (c P : Nat) (w : World) (hB : Blk w P (bokC b A c) 48) :
    Calls Try.prog 70 #[.pointer (some ⟨P, 0, none⟩)] w fun e w' => (∃ v, e = .returned v ∧ ML w' w.heap.size v (outB b)) ∧ Below w.heap.size w w' := by
  obtain ⟨K, L, S, hK, hL, hS, e1, e2, e3⟩ := szd_nat hz
  unfold bokC at hB
  unfold outB
  rw [e1, e2, e3] at hB ⊢
  exact l03Meanings_any K L S hK hL hS P _ w hB
theorem iMeanings_any (b : Bok) (hz : szd b = true) (A : Option Addr) (c : Nat) (w : World) :
    Calls Try.prog 73 #[bok b A c] w fun e w' => (∃ v, e = .returned v ∧ ML w' w.heap.size v (outB b)) ∧ Below w.heap.size w w' := by
  obtain ⟨K, L, S, hK, hL, hS, e1, e2, e3⟩ := szd_nat hz
  unfold bok bokC outB
  rw [e1, e2, e3]
  exact meanings_any K L S hK hL hS _ w

def roomN (b : Bok) : Int := if szd b then ((outB b).length : Int) else 0
def roomC (b : Bok) : Int := if szd b then 0 else 1
set_option maxRecDepth 100000 in
set_option maxHeartbeats 1000000 in
theorem sRoomOf_any (b : Bok) (hr : bokR b) (A : Option Addr) (c : Nat) (w : World) :
    Calls Try.prog 36 #[bok b A c] w fun e w' => e = .returned (.tuple #[.int .i64 (roomN b), .int .i64 (roomC b)]) ∧ Below w.heap.size w w' := by
  have bb := bl_new (Below.refl _ w) (.cells (bokC b A c).toArray 48)
  have B0 := Blk.mk w (bokC b A c) 48 rfl
  have key := l03Sized_any b hr A c _ _ B0
  have key2 := fun hz => sMeanings_any b hz A c _ _ B0
  have hle := fun hz => outB_le (b := b) hz
  unfold roomN roomC bok
  generalize bokC b A c = cs at *
  cases hz : szd b
  · rw [hz] at key
    clear key2
    go_enter Try.func36, Try.ntmps36
    go_wp2_with (fail)
    refine key.mono ?_; rintro e w1 ⟨rfl, rfl⟩
    go_wp2_with (fail)
    go_ret2
    exact ⟨rfl, bb⟩
  · rw [hz] at key
    replace key2 := key2 hz
    replace hle := hle hz
    go_enter Try.func36, Try.ntmps36
    go_wp2_with (fail)
    refine key.mono ?_; rintro e w1 ⟨rfl, rfl⟩
    go_wp2_with (fail)
    refine key2.mono ?_; rintro e w2 ⟨⟨v, rfl, hM⟩, hb⟩
    obtain ⟨A2, c2, rfl⟩ := hM.slice
    go_wp2_with (fail)
    go_ret2
    exact ⟨rfl, bl_call bb hb⟩
set_option maxRecDepth 100000 in
set_option maxHeartbeats 1000000 in
theorem RoomOf_any (b : Bok) (hr : bokR b) (A : Option Addr) (c : Nat) (w : World) :
    Calls Try.prog 37 #[bok b A c] w fun e w' => e = .returned (.tuple #[.int .i64 (roomN b), .int .i64 (roomC b)]) ∧ Below w.heap.size w w' := by
  have bb := bl_new (Below.refl _ w) (.cells (bokC b A c).toArray 48)
  have B0 := Blk.mk w (bokC b A c) 48 rfl
  have key := fun W => isFrame_any b hr A c W
  have key2 := fun hz W => iMeanings_any b hz A c W
  have hle := fun hz => outB_le (b := b) hz
  have lb := bokC_length b A c
  unfold roomN roomC bok
  unfold bok at key key2
  generalize bokC b A c = cs at *
  cases hz : szd b
  · rw [hz] at key
    clear key2
    go_enter Try.func37, Try.ntmps37
    go_wp2_with (refine load_blk rfl 48 _ rfl _ rfl B0 Try.underlying48 rfl info_ib lb ?_)
    refine (key _).mono ?_; rintro e w1 ⟨rfl, hb1⟩
    go_wp2_with (fail)
    go_ret2
    exact ⟨rfl, bl_call bb hb1⟩
  · rw [hz] at key
    replace key2 := key2 hz
    replace hle := hle hz
    go_enter Try.func37, Try.ntmps37
    go_wp2_with (refine load_blk rfl 48 _ rfl _ rfl B0 Try.underlying48 rfl info_ib lb ?_)
    refine (key _).mono ?_; rintro e w1 ⟨rfl, hb1⟩
    have B1 := B0.kept hb1
    go_wp2_with (refine load_blk rfl 48 _ rfl _ rfl B1 Try.underlying48 rfl info_ib lb ?_)
    refine (key2 _).mono ?_; rintro e w2 ⟨⟨v, rfl, hM⟩, hb2⟩
    obtain ⟨A2, c2, rfl⟩ := hM.slice
    go_wp2_with (go_at_call 72; refine (sizeM_any _ _ _ _).mono ?_; rintro e w' ⟨rfl, rfl⟩)
    go_ret2
    exact ⟨rfl, bl_call (bl_call bb hb1) hb2⟩
end Go.Proofs.Ytnokdbnlagoidaa
