/- Contracts: impl.StripesOf, impl.PlainFlag. -/
import Derived.Test.YtjppoejkfpeicaaG6
set_option linter.unusedVariables false
set_option linter.unusedSimpArgs false
namespace Go.Proofs.Ytjppoejkfpeicaa
open Go.RowKit

theorem size_any (A : Option Addr) (n c : Nat) (w : World) (hn : n ≤ 9223372036854775807) : Calls Try.prog 64 #[.slice A n c] w fun e w' => e = .returned (.int .i64 n) ∧ w = w' := by
  go_enter Try.func64, Try.ntmps64
  go_wp2
  go_ret
  exact ⟨rfl, rfl⟩

def stripesOk (xs : List Int) (up : Bool) : Bool := inR xs.length 1 (if up then 6 else 4) && aC xs
theorem stripe_bd (xs : List Int) (up : Bool) (h : stripesOk xs up = true) (k : Nat) (hk : k < 24) : 0 ≤ stripeF xs up k ∧ stripeF xs up k ≤ 255 := by
  simp only [stripesOk, Bool.and_eq_true, inR_iff] at h
  have ha := h.2
  unfold aC at ha
  rw [List.all_eq_true] at ha
  have hi : (if up then k % 6 else k / 6) * xs.length / (if up then 6 else 4) < xs.length := by
    cases up
    · exact stripe_at (k / 6) xs.length 4 (by omega) (by omega) (by omega)
    · exact stripe_at (k % 6) xs.length 6 (by omega) (by omega) (by omega)
  have := (inR_iff _ _ _).1 (ha _ (nth_mem xs _ hi))
  unfold stripeF
  omega
theorem Sl.below {k : IntKind} {w w' : World} {A : Option Addr} {xs : List Int} (h : Sl k w A xs) (hb : Below w.heap.size w w') : Sl k w' A xs := h.kept hb

set_option maxHeartbeats 800000 in
theorem StripesOf_any (xs : List Int) (up : Bool) (A : Option Addr) (c : Nat) (w : World) (hs : Sl .i64 w A xs) (hbig : xs.length ≤ 1048576) :
    Calls Try.prog 24 #[.slice A xs.length c, .bool up] w fun e w' => e = .returned (.tuple #[fl (okF (stripesOk xs up) (stripeL xs up)), .int .i64 (codeR (stripesOk xs up))]) ∧ Below w.heap.size w w' := by
  have hl : (okF (stripesOk xs up) (stripeL xs up)).length = 24 := okF_length (stripeL_length _ _)
  cases up
  · have V0 : Blk ((((w.alloc (.cells #[.slice A xs.length c] 24)).alloc (.cells #[.bool false] 4)).alloc (.cells #[.int .u8 0, .int .u8 0, .int .u8 0, .int .u8 0, .int .u8 0, .int .u8 0, .int .u8 0, .int .u8 0, .int .u8 0, .int .u8 0, .int .u8 0, .int .u8 0, .int .u8 0, .int .u8 0, .int .u8 0, .int .u8 0, .int .u8 0, .int .u8 0, .int .u8 0, .int .u8 0, .int .u8 0, .int .u8 0, .int .u8 0, .int .u8 0] 38)).alloc (.cells #[.int .i64 4] 3)) w.heap.size [.slice A xs.length c] 24 := (((Blk.mk _ [_] _ rfl).alloc _).alloc _).alloc _
    have V1 : Blk ((((w.alloc (.cells #[.slice A xs.length c] 24)).alloc (.cells #[.bool false] 4)).alloc (.cells #[.int .u8 0, .int .u8 0, .int .u8 0, .int .u8 0, .int .u8 0, .int .u8 0, .int .u8 0, .int .u8 0, .int .u8 0, .int .u8 0, .int .u8 0, .int .u8 0, .int .u8 0, .int .u8 0, .int .u8 0, .int .u8 0, .int .u8 0, .int .u8 0, .int .u8 0, .int .u8 0, .int .u8 0, .int .u8 0, .int .u8 0, .int .u8 0] 38)).alloc (.cells #[.int .i64 4] 3)) (w.heap.size + 1) [.bool false] 4 := ((Blk.mk _ [_] _ (by simp)).alloc _).alloc _
    have V2 : Blk ((((w.alloc (.cells #[.slice A xs.length c] 24)).alloc (.cells #[.bool false] 4)).alloc (.cells #[.int .u8 0, .int .u8 0, .int .u8 0, .int .u8 0, .int .u8 0, .int .u8 0, .int .u8 0, .int .u8 0, .int .u8 0, .int .u8 0, .int .u8 0, .int .u8 0, .int .u8 0, .int .u8 0, .int .u8 0, .int .u8 0, .int .u8 0, .int .u8 0, .int .u8 0, .int .u8 0, .int .u8 0, .int .u8 0, .int .u8 0, .int .u8 0] 38)).alloc (.cells #[.int .i64 4] 3)) (w.heap.size + 1 + 1) (u8s zero24) 38 := (Blk.mk _ (u8s zero24) _ (by simp)).alloc _
    have V3 : Blk ((((w.alloc (.cells #[.slice A xs.length c] 24)).alloc (.cells #[.bool false] 4)).alloc (.cells #[.int .u8 0, .int .u8 0, .int .u8 0, .int .u8 0, .int .u8 0, .int .u8 0, .int .u8 0, .int .u8 0, .int .u8 0, .int .u8 0, .int .u8 0, .int .u8 0, .int .u8 0, .int .u8 0, .int .u8 0, .int .u8 0, .int .u8 0, .int .u8 0, .int .u8 0, .int .u8 0, .int .u8 0, .int .u8 0, .int .u8 0, .int .u8 0] 38)).alloc (.cells #[.int .i64 4] 3)) (w.heap.size + 1 + 1 + 1) [.int .i64 4] 3 := Blk.mk _ [_] _ (by simp)
    have b0 : Below w.heap.size w ((((w.alloc (.cells #[.slice A xs.length c] 24)).alloc (.cells #[.bool false] 4)).alloc (.cells #[.int .u8 0, .int .u8 0, .int .u8 0, .int .u8 0, .int .u8 0, .int .u8 0, .int .u8 0, .int .u8 0, .int .u8 0, .int .u8 0, .int .u8 0, .int .u8 0, .int .u8 0, .int .u8 0, .int .u8 0, .int .u8 0, .int .u8 0, .int .u8 0, .int .u8 0, .int .u8 0, .int .u8 0, .int .u8 0, .int .u8 0, .int .u8 0] 38)).alloc (.cells #[.int .i64 4] 3)) := bl_new (bl_new (bl_new (bl_new (Below.refl _ _) _) _) _) _
    have hs' := hs.kept b0
    have d0 := V0.at 0
    have d3 := V3.at 0
    simp only [List.getElem?_cons_zero] at d0 d3
    cases h1 : inR xs.length 1 4
    · have hk : stripesOk xs false = false := by unfold stripesOk; simp only [Bool.false_eq_true, if_false, if_true]; rw [h1]; rfl
      rw [hk]
      go_enter Try.func24, Try.ntmps24
      go_wp2
      generalize (((w.alloc (.cells #[.slice A xs.length c] 24)).alloc (.cells #[.bool false] 4)).alloc (.cells #[.int .u8 0, .int .u8 0, .int .u8 0, .int .u8 0, .int .u8 0, .int .u8 0, .int .u8 0, .int .u8 0, .int .u8 0, .int .u8 0, .int .u8 0, .int .u8 0, .int .u8 0, .int .u8 0, .int .u8 0, .int .u8 0, .int .u8 0, .int .u8 0, .int .u8 0, .int .u8 0, .int .u8 0, .int .u8 0, .int .u8 0, .int .u8 0] 38)).alloc (.cells #[.int .i64 4] 3) = W at *
      have V2q := fun q => V2.drewN q
      go_quiet (first | (go_at_call 64; exact Calls.quiet_of_same ((size_any _ _ _ _ (by omega)).mono fun e w' h => ⟨h.1, h.2.symm⟩)) | (go_at_call 63; exact Calls.quiet_of_same ((within_any _ _ _ _).mono fun e w' h => ⟨h.1, h.2.symm⟩)))
      have V2q := V2.drewN nq
      have b0q := bl_drewN b0 nq
      generalize W.drewN nq = W1 at *
      go_wp2_with (refine store_blk rfl 38 _ _ rfl _ rfl (ds := u8s zero24) rfl V2q info_fl (by rfl) (by rfl) (u8s_one _) ?_)
      refine ret_blk_tmp rfl _ rfl (V2q.setRow _) Try.underlying38 rfl info_fl (by rfl) rfl ⟨rfl, bl_setRow b0q (by omega) _⟩
    · have hk : stripesOk xs false = aC xs := by unfold stripesOk; simp only [Bool.false_eq_true, if_false, if_true]; rw [h1]; rfl
      have hb := (inR_iff _ _ _).1 h1
      obtain ⟨b, o, rfl, hr⟩ := hs'.2 (by omega)
      have hsb := fun i => stripe_bd xs false (k := i)
      rw [hk] at hl hsb ⊢
      have key := fun q => pattern_any 65 #[.pointer (some ⟨w.heap.size + 1, 0, none⟩), .pointer (some ⟨w.heap.size, 0, none⟩), .pointer (some ⟨w.heap.size + 1 + 1 + 1, 0, none⟩)] (enters Try.func65 (by kernel_rfl) rfl) (stripeF xs false) xs b o c (World.drewN ((((w.alloc (.cells #[.slice (some ⟨b, o, none⟩) xs.length c] 24)).alloc (.cells #[.bool false] 4)).alloc (.cells #[.int .u8 0, .int .u8 0, .int .u8 0, .int .u8 0, .int .u8 0, .int .u8 0, .int .u8 0, .int .u8 0, .int .u8 0, .int .u8 0, .int .u8 0, .int .u8 0, .int .u8 0, .int .u8 0, .int .u8 0, .int .u8 0, .int .u8 0, .int .u8 0, .int .u8 0, .int .u8 0, .int .u8 0, .int .u8 0, .int .u8 0, .int .u8 0] 38)).alloc (.cells #[.int .i64 4] 3)) q) (by omega) hr
        (fun h i hi => hsb i h hi)
        (fun _ W' k hk hb' => StripesOf1_any xs false (some ⟨b, o, none⟩) c w.heap.size (w.heap.size + 1) (w.heap.size + 1 + 1 + 1) k hk W' ((hs'.kept (bl_drewN (Below.refl _ _) q)).kept hb') (by omega) (by simp only [Bool.false_eq_true, if_false, if_true]; omega) (((V0.drewN q).kept hb').at 0) (((V1.drewN q).kept hb').at 0) (((V3.drewN q).kept hb').at 0))
      rw [show (List.range 24).map (stripeF xs false) = stripeL xs false from rfl] at key
      clear hsb
      generalize okF (aC xs) (stripeL xs false) = ys at *
      go_enter Try.func24, Try.ntmps24
      go_wp2
      generalize (((w.alloc (.cells #[.slice (some ⟨b, o, none⟩) xs.length c] 24)).alloc (.cells #[.bool false] 4)).alloc (.cells #[.int .u8 0, .int .u8 0, .int .u8 0, .int .u8 0, .int .u8 0, .int .u8 0, .int .u8 0, .int .u8 0, .int .u8 0, .int .u8 0, .int .u8 0, .int .u8 0, .int .u8 0, .int .u8 0, .int .u8 0, .int .u8 0, .int .u8 0, .int .u8 0, .int .u8 0, .int .u8 0, .int .u8 0, .int .u8 0, .int .u8 0, .int .u8 0] 38)).alloc (.cells #[.int .i64 4] 3) = W at *
      have V2q := fun q => V2.drewN q
      go_quiet (first | (go_at_call 64; exact Calls.quiet_of_same ((size_any _ _ _ _ (by omega)).mono fun e w' h => ⟨h.1, h.2.symm⟩)) | (go_at_call 63; exact Calls.quiet_of_same ((within_any _ _ _ _).mono fun e w' h => ⟨h.1, h.2.symm⟩)))
      go_wp2_with (fail)
      refine (key _).mono ?_; rintro e w1 ⟨rfl, hb1⟩
      have g2 := (V2q _).kept hb1
      unfold fl
      go_wp2_with (refine store_blk rfl 38 _ _ rfl _ rfl rfl g2 info_fl (by rw [u8s_length]; exact hl) (by rw [u8s_length]; exact zero24_length) (u8s_one _) ?_)
      refine ret_blk_tmp rfl _ rfl (g2.setRow _) Try.underlying38 rfl info_fl (by rw [u8s_length]; exact hl) rfl ⟨rfl, bl_setRow (bl_call (bl_drewN b0 _) hb1) (by omega) _⟩
  · have V0 : Blk ((((w.alloc (.cells #[.slice A xs.length c] 24)).alloc (.cells #[.bool true] 4)).alloc (.cells #[.int .u8 0, .int .u8 0, .int .u8 0, .int .u8 0, .int .u8 0, .int .u8 0, .int .u8 0, .int .u8 0, .int .u8 0, .int .u8 0, .int .u8 0, .int .u8 0, .int .u8 0, .int .u8 0, .int .u8 0, .int .u8 0, .int .u8 0, .int .u8 0, .int .u8 0, .int .u8 0, .int .u8 0, .int .u8 0, .int .u8 0, .int .u8 0] 38)).alloc (.cells #[.int .i64 6] 3)) w.heap.size [.slice A xs.length c] 24 := (((Blk.mk _ [_] _ rfl).alloc _).alloc _).alloc _
    have V1 : Blk ((((w.alloc (.cells #[.slice A xs.length c] 24)).alloc (.cells #[.bool true] 4)).alloc (.cells #[.int .u8 0, .int .u8 0, .int .u8 0, .int .u8 0, .int .u8 0, .int .u8 0, .int .u8 0, .int .u8 0, .int .u8 0, .int .u8 0, .int .u8 0, .int .u8 0, .int .u8 0, .int .u8 0, .int .u8 0, .int .u8 0, .int .u8 0, .int .u8 0, .int .u8 0, .int .u8 0, .int .u8 0, .int .u8 0, .int .u8 0, .int .u8 0] 38)).alloc (.cells #[.int .i64 6] 3)) (w.heap.size + 1) [.bool true] 4 := ((Blk.mk _ [_] _ (by simp)).alloc _).alloc _
    have V2 : Blk ((((w.alloc (.cells #[.slice A xs.length c] 24)).alloc (.cells #[.bool true] 4)).alloc (.cells #[.int .u8 0, .int .u8 0, .int .u8 0, .int .u8 0, .int .u8 0, .int .u8 0, .int .u8 0, .int .u8 0, .int .u8 0, .int .u8 0, .int .u8 0, .int .u8 0, .int .u8 0, .int .u8 0, .int .u8 0, .int .u8 0, .int .u8 0, .int .u8 0, .int .u8 0, .int .u8 0, .int .u8 0, .int .u8 0, .int .u8 0, .int .u8 0] 38)).alloc (.cells #[.int .i64 6] 3)) (w.heap.size + 1 + 1) (u8s zero24) 38 := (Blk.mk _ (u8s zero24) _ (by simp)).alloc _
    have V3 : Blk ((((w.alloc (.cells #[.slice A xs.length c] 24)).alloc (.cells #[.bool true] 4)).alloc (.cells #[.int .u8 0, .int .u8 0, .int .u8 0, .int .u8 0, .int .u8 0, .int .u8 0, .int .u8 0, .int .u8 0, .int .u8 0, .int .u8 0, .int .u8 0, .int .u8 0, .int .u8 0, .int .u8 0, .int .u8 0, .int .u8 0, .int .u8 0, .int .u8 0, .int .u8 0, .int .u8 0, .int .u8 0, .int .u8 0, .int .u8 0, .int .u8 0] 38)).alloc (.cells #[.int .i64 6] 3)) (w.heap.size + 1 + 1 + 1) [.int .i64 6] 3 := Blk.mk _ [_] _ (by simp)
    have b0 : Below w.heap.size w ((((w.alloc (.cells #[.slice A xs.length c] 24)).alloc (.cells #[.bool true] 4)).alloc (.cells #[.int .u8 0, .int .u8 0, .int .u8 0, .int .u8 0, .int .u8 0, .int .u8 0, .int .u8 0, .int .u8 0, .int .u8 0, .int .u8 0, .int .u8 0, .int .u8 0, .int .u8 0, .int .u8 0, .int .u8 0, .int .u8 0, .int .u8 0, .int .u8 0, .int .u8 0, .int .u8 0, .int .u8 0, .int .u8 0, .int .u8 0, .int .u8 0] 38)).alloc (.cells #[.int .i64 6] 3)) := bl_new (bl_new (bl_new (bl_new (Below.refl _ _) _) _) _) _
    have hs' := hs.kept b0
    have d0 := V0.at 0
    have d3 := V3.at 0
    simp only [List.getElem?_cons_zero] at d0 d3
    cases h1 : inR xs.length 1 6
    · have hk : stripesOk xs true = false := by unfold stripesOk; simp only [Bool.false_eq_true, if_false, if_true]; rw [h1]; rfl
      rw [hk]
      go_enter Try.func24, Try.ntmps24
      go_wp2
      generalize (((w.alloc (.cells #[.slice A xs.length c] 24)).alloc (.cells #[.bool true] 4)).alloc (.cells #[.int .u8 0, .int .u8 0, .int .u8 0, .int .u8 0, .int .u8 0, .int .u8 0, .int .u8 0, .int .u8 0, .int .u8 0, .int .u8 0, .int .u8 0, .int .u8 0, .int .u8 0, .int .u8 0, .int .u8 0, .int .u8 0, .int .u8 0, .int .u8 0, .int .u8 0, .int .u8 0, .int .u8 0, .int .u8 0, .int .u8 0, .int .u8 0] 38)).alloc (.cells #[.int .i64 6] 3) = W at *
      have V2q := fun q => V2.drewN q
      go_quiet (first | (go_at_call 64; exact Calls.quiet_of_same ((size_any _ _ _ _ (by omega)).mono fun e w' h => ⟨h.1, h.2.symm⟩)) | (go_at_call 63; exact Calls.quiet_of_same ((within_any _ _ _ _).mono fun e w' h => ⟨h.1, h.2.symm⟩)))
      have V2q := V2.drewN nq
      have b0q := bl_drewN b0 nq
      generalize W.drewN nq = W1 at *
      go_wp2_with (refine store_blk rfl 38 _ _ rfl _ rfl (ds := u8s zero24) rfl V2q info_fl (by rfl) (by rfl) (u8s_one _) ?_)
      refine ret_blk_tmp rfl _ rfl (V2q.setRow _) Try.underlying38 rfl info_fl (by rfl) rfl ⟨rfl, bl_setRow b0q (by omega) _⟩
    · have hk : stripesOk xs true = aC xs := by unfold stripesOk; simp only [Bool.false_eq_true, if_false, if_true]; rw [h1]; rfl
      have hb := (inR_iff _ _ _).1 h1
      obtain ⟨b, o, rfl, hr⟩ := hs'.2 (by omega)
      have hsb := fun i => stripe_bd xs true (k := i)
      rw [hk] at hl hsb ⊢
      have key := fun q => pattern_any 65 #[.pointer (some ⟨w.heap.size + 1, 0, none⟩), .pointer (some ⟨w.heap.size, 0, none⟩), .pointer (some ⟨w.heap.size + 1 + 1 + 1, 0, none⟩)] (enters Try.func65 (by kernel_rfl) rfl) (stripeF xs true) xs b o c (World.drewN ((((w.alloc (.cells #[.slice (some ⟨b, o, none⟩) xs.length c] 24)).alloc (.cells #[.bool true] 4)).alloc (.cells #[.int .u8 0, .int .u8 0, .int .u8 0, .int .u8 0, .int .u8 0, .int .u8 0, .int .u8 0, .int .u8 0, .int .u8 0, .int .u8 0, .int .u8 0, .int .u8 0, .int .u8 0, .int .u8 0, .int .u8 0, .int .u8 0, .int .u8 0, .int .u8 0, .int .u8 0, .int .u8 0, .int .u8 0, .int .u8 0, .int .u8 0, .int .u8 0] 38)).alloc (.cells #[.int .i64 6] 3)) q) (by omega) hr
        (fun h i hi => hsb i h hi)
        (fun _ W' k hk hb' => StripesOf1_any xs true (some ⟨b, o, none⟩) c w.heap.size (w.heap.size + 1) (w.heap.size + 1 + 1 + 1) k hk W' ((hs'.kept (bl_drewN (Below.refl _ _) q)).kept hb') (by omega) (by simp only [Bool.false_eq_true, if_false, if_true]; omega) (((V0.drewN q).kept hb').at 0) (((V1.drewN q).kept hb').at 0) (((V3.drewN q).kept hb').at 0))
      rw [show (List.range 24).map (stripeF xs true) = stripeL xs true from rfl] at key
      clear hsb
      generalize okF (aC xs) (stripeL xs true) = ys at *
      go_enter Try.func24, Try.ntmps24
      go_wp2
      generalize (((w.alloc (.cells #[.slice (some ⟨b, o, none⟩) xs.length c] 24)).alloc (.cells #[.bool true] 4)).alloc (.cells #[.int .u8 0, .int .u8 0, .int .u8 0, .int .u8 0, .int .u8 0, .int .u8 0, .int .u8 0, .int .u8 0, .int .u8 0, .int .u8 0, .int .u8 0, .int .u8 0, .int .u8 0, .int .u8 0, .int .u8 0, .int .u8 0, .int .u8 0, .int .u8 0, .int .u8 0, .int .u8 0, .int .u8 0, .int .u8 0, .int .u8 0, .int .u8 0] 38)).alloc (.cells #[.int .i64 6] 3) = W at *
      have V2q := fun q => V2.drewN q
      go_quiet (first | (go_at_call 64; exact Calls.quiet_of_same ((size_any _ _ _ _ (by omega)).mono fun e w' h => ⟨h.1, h.2.symm⟩)) | (go_at_call 63; exact Calls.quiet_of_same ((within_any _ _ _ _).mono fun e w' h => ⟨h.1, h.2.symm⟩)))
      go_wp2_with (fail)
      refine (key _).mono ?_; rintro e w1 ⟨rfl, hb1⟩
      have g2 := (V2q _).kept hb1
      unfold fl
      go_wp2_with (refine store_blk rfl 38 _ _ rfl _ rfl rfl g2 info_fl (by rw [u8s_length]; exact hl) (by rw [u8s_length]; exact zero24_length) (u8s_one _) ?_)
      refine ret_blk_tmp rfl _ rfl (g2.setRow _) Try.underlying38 rfl info_fl (by rw [u8s_length]; exact hl) rfl ⟨rfl, bl_setRow (bl_call (bl_drewN b0 _) hb1) (by omega) _⟩

theorem stripe_one (a : Int) : stripeL [a] true = plainL a := by
  unfold stripeL plainL
  apply List.map_congr_left
  intro k _
  simp only [stripeF, if_true, List.length_singleton, Nat.mul_one]
  rw [Nat.div_eq_of_lt (by omega)]; rfl
theorem stripesOk_one (a : Int) : stripesOk [a] true = inR a 0 5 := by
  simp [stripesOk, aC, inR]
set_option maxHeartbeats 400000 in
theorem PlainFlag_any (a : Int) (w : World) :
    Calls Try.prog 20 #[.int .i64 a] w fun e w' => e = .returned (.tuple #[fl (okF (inR a 0 5) (plainL a)), .int .i64 (codeR (inR a 0 5))]) ∧ Below w.heap.size w w' := by
  rw [← stripe_one, ← stripesOk_one]
  have W2 : Blk ((w.alloc (.cells #[.int .u8 0, .int .u8 0, .int .u8 0, .int .u8 0, .int .u8 0, .int .u8 0, .int .u8 0, .int .u8 0, .int .u8 0, .int .u8 0, .int .u8 0, .int .u8 0, .int .u8 0, .int .u8 0, .int .u8 0, .int .u8 0, .int .u8 0, .int .u8 0, .int .u8 0, .int .u8 0, .int .u8 0, .int .u8 0, .int .u8 0, .int .u8 0] 38)).alloc (.cells #[.int .i64 a] 2)) w.heap.size (u8s zero24) 38 := (Blk.mk _ (u8s zero24) _ rfl).alloc _
  have W3 : Blk ((w.alloc (.cells #[.int .u8 0, .int .u8 0, .int .u8 0, .int .u8 0, .int .u8 0, .int .u8 0, .int .u8 0, .int .u8 0, .int .u8 0, .int .u8 0, .int .u8 0, .int .u8 0, .int .u8 0, .int .u8 0, .int .u8 0, .int .u8 0, .int .u8 0, .int .u8 0, .int .u8 0, .int .u8 0, .int .u8 0, .int .u8 0, .int .u8 0, .int .u8 0] 38)).alloc (.cells #[.int .i64 a] 2)) (w.heap.size + 1) (i64s [a]) 2 := Blk.mk _ (i64s [a]) _ (by simp)
  have b0 : Below w.heap.size w ((w.alloc (.cells #[.int .u8 0, .int .u8 0, .int .u8 0, .int .u8 0, .int .u8 0, .int .u8 0, .int .u8 0, .int .u8 0, .int .u8 0, .int .u8 0, .int .u8 0, .int .u8 0, .int .u8 0, .int .u8 0, .int .u8 0, .int .u8 0, .int .u8 0, .int .u8 0, .int .u8 0, .int .u8 0, .int .u8 0, .int .u8 0, .int .u8 0, .int .u8 0] 38)).alloc (.cells #[.int .i64 a] 2)) := bl_new (bl_new (Below.refl _ _) _) _
  have hl : (okF (stripesOk [a] true) (stripeL [a] true)).length = 24 := okF_length (stripeL_length _ _)
  have key := StripesOf_any [a] true (some ⟨w.heap.size + 1, 0, none⟩) 1 _ ⟨by simp, fun _ => ⟨_, _, rfl, W3.range⟩⟩ (by simp)
  generalize okF (stripesOk [a] true) (stripeL [a] true) = ys at *
  go_enter Try.func20, Try.ntmps20
  go_wp2_with (fail)
  refine (key).mono ?_; rintro e w1 ⟨rfl, hb1⟩
  have h2 := W2.kept hb1
  unfold fl
  go_wp2_with (refine store_blk rfl 38 _ _ rfl _ rfl rfl h2 info_fl (by rw [u8s_length]; exact hl) (by rw [u8s_length]; exact zero24_length) (u8s_one _) ?_)
  refine ret_blk_tmp rfl _ rfl (h2.setRow _) Try.underlying38 rfl info_fl (by rw [u8s_length]; exact hl) rfl ⟨rfl, bl_setRow (bl_call b0 hb1) (by omega) _⟩
end Go.Proofs.Ytjppoejkfpeicaa
