/- Contracts: ReadFlag: impl's side. -/
import Derived.Test.YtjppoejkfpeicaaDoorRg
import Derived.Test.YtjppoejkfpeicaaDoorRa
set_option linter.unusedVariables false
set_option linter.unusedSimpArgs false
namespace Go.Proofs.YtjppoejkfpeicaaDoor
open Go.RowKit

theorem nat_u8 (b : UInt8) : ((b.toNat : Int)).toNat.toUInt8 = b := by simp
theorem count_one_le (s : ByteArray) : s.size + Lib.countB s ⟨#[47]⟩ * (⟨#[]⟩ : ByteArray).size ≤ s.size := by
  have : (⟨#[]⟩ : ByteArray).size = 0 := rfl
  rw [this, Nat.mul_zero]; exact Nat.le_refl _

theorem toList_ne2 {u v : ByteArray} (h : u ≠ v) : (u.toList == v.toList) = false := by
  rw [beq_eq_false_iff_ne]
  intro e
  rw [ByteArray.toList_eq, ByteArray.toList_eq] at e
  exact h (ByteArray.ext (Array.toList_inj.1 e))
theorem toList_some {u : ByteArray} (h : u ≠ ⟨#[]⟩) : u.toList.isEmpty = false := by
  cases hq : u.toList.isEmpty
  · rfl
  · exfalso
    rw [List.isEmpty_iff, ByteArray.toList_eq] at hq
    exact h (ByteArray.ext (Array.toList_inj.1 (by rw [hq])))
set_option maxRecDepth 100000 in
set_option maxHeartbeats 2000000 in
theorem ReadFlag_any (s : ByteArray) (hs : s.size ≤ 1048576) (w : World) (m : Int) (hm : w.cell? ⟨0, 0, none⟩ = some (.int .i64 m)) :
    Calls Tryd.prog 6 #[.string s] w fun e w' => e = .returned (.tuple #[fl (rdL s.data.toList), .int .i64 (rdC s.data.toList)]) ∧ Below w.heap.size w w' := by
  unfold fl
  have B0 : Blk (w.alloc (.cells #[.int .u8 0, .int .u8 0, .int .u8 0, .int .u8 0, .int .u8 0, .int .u8 0, .int .u8 0, .int .u8 0, .int .u8 0, .int .u8 0, .int .u8 0, .int .u8 0, .int .u8 0, .int .u8 0, .int .u8 0, .int .u8 0, .int .u8 0, .int .u8 0, .int .u8 0, .int .u8 0, .int .u8 0, .int .u8 0, .int .u8 0, .int .u8 0] 23)) w.heap.size (u8s zero24) 23 := Blk.mk _ (u8s zero24) _ rfl
  have b0 := bl_new (Below.refl _ w) (.cells #[.int .u8 0, .int .u8 0, .int .u8 0, .int .u8 0, .int .u8 0, .int .u8 0, .int .u8 0, .int .u8 0, .int .u8 0, .int .u8 0, .int .u8 0, .int .u8 0, .int .u8 0, .int .u8 0, .int .u8 0, .int .u8 0, .int .u8 0, .int .u8 0, .int .u8 0, .int .u8 0, .int .u8 0, .int .u8 0, .int .u8 0, .int .u8 0] 23)
  have hz : zero24.length = 24 := rfl
  have kr := fun W h => sh_strings_ReplaceAll s ⟨#[47]⟩ ⟨#[]⟩ m W (by omega) h (by decide) (Nat.le_trans (count_one_le s) (by omega))
  have hcs : Lib.replaceAll s.data.toList (⟨#[47]⟩ : ByteArray).data.toList (⟨#[]⟩ : ByteArray).data.toList = cellsF s.data.toList := rfl
  simp only [hcs] at kr
  have HE := As.mk (readF_eq s)
  have hm1 : (w.alloc (.cells #[.int .u8 0, .int .u8 0, .int .u8 0, .int .u8 0, .int .u8 0, .int .u8 0, .int .u8 0, .int .u8 0, .int .u8 0, .int .u8 0, .int .u8 0, .int .u8 0, .int .u8 0, .int .u8 0, .int .u8 0, .int .u8 0, .int .u8 0, .int .u8 0, .int .u8 0, .int .u8 0, .int .u8 0, .int .u8 0, .int .u8 0, .int .u8 0] 23)).cell? ⟨0, 0, none⟩ = some (.int .i64 m) := by
    rw [b0.cell (World.block_lt_of_cell? w _ hm)]; exact hm
  have k1 := kr _ hm1
  have hg : As (gotF s.data.toList = gotN (cellsF s.data.toList)) := ⟨rfl⟩
  obtain ⟨cs, hcs2⟩ : ∃ cs, cellsF s.data.toList = cs := ⟨_, rfl⟩
  rw [hcs2] at hg
  simp only [hcs2] at k1
  clear kr hcs hm1 hcs2
  obtain ⟨q, hq⟩ : ∃ q, min cs.length 24 = q := ⟨_, rfl⟩
  have hq24 : q ≤ 24 := by omega
  have hql : q ≤ cs.length := by omega
  go_enter Tryd.func6, Tryd.ntmps6
  go_wp2_with (fail)
  refine k1.mono ?_; rintro e w1 ⟨rfl, hb1⟩
  have B1 := (B0.kept hb1).alloc (.cells #[.int .u8 0, .int .u8 0, .int .u8 0, .int .u8 0, .int .u8 0, .int .u8 0, .int .u8 0, .int .u8 0, .int .u8 0, .int .u8 0, .int .u8 0, .int .u8 0, .int .u8 0, .int .u8 0, .int .u8 0, .int .u8 0, .int .u8 0, .int .u8 0, .int .u8 0, .int .u8 0, .int .u8 0, .int .u8 0, .int .u8 0, .int .u8 0] 23)
  have B2 : Blk (w1.alloc (.cells #[.int .u8 0, .int .u8 0, .int .u8 0, .int .u8 0, .int .u8 0, .int .u8 0, .int .u8 0, .int .u8 0, .int .u8 0, .int .u8 0, .int .u8 0, .int .u8 0, .int .u8 0, .int .u8 0, .int .u8 0, .int .u8 0, .int .u8 0, .int .u8 0, .int .u8 0, .int .u8 0, .int .u8 0, .int .u8 0, .int .u8 0, .int .u8 0] 23)) w1.heap.size (u8s zero24) 23 := Blk.mk _ (u8s zero24) _ rfl
  have hlt := As.mk (B0.kept hb1).lt
  have b1 := bl_new (bl_call b0 hb1) (.cells #[.int .u8 0, .int .u8 0, .int .u8 0, .int .u8 0, .int .u8 0, .int .u8 0, .int .u8 0, .int .u8 0, .int .u8 0, .int .u8 0, .int .u8 0, .int .u8 0, .int .u8 0, .int .u8 0, .int .u8 0, .int .u8 0, .int .u8 0, .int .u8 0, .int .u8 0, .int .u8 0, .int .u8 0, .int .u8 0, .int .u8 0, .int .u8 0] 23)
  clear B0 b0 hb1 k1
  have V1 := B1.farRow (g := w1.heap.size) (by have := hlt.out; omega) (u8s zero24).toArray
  have V2 := B2.setRow (u8s zero24)
  have d0 := bl_setRow b1 (g := w1.heap.size) (by have := hlt.out; omega) (u8s zero24).toArray
  have hq' : min ((cs.length : Nat) : Int) 24 = (q : Int) := by omega
  have hp0 : part (fun i => IntKind.wrap .u8 (colB (cs.getD i 0))) 24 0 = zero24 := part_zero _ _
  go_wp2_with (refine store_blk rfl 23 _ _ rfl _ rfl (ds := u8s zero24) rfl B2 info_fl (by rfl) (by rfl) (u8s_one _) ?_)
  try simp only [hq']
  clear hq' B1 B2 b1
  generalize ((w1.alloc (.cells #[.int .u8 0, .int .u8 0, .int .u8 0, .int .u8 0, .int .u8 0, .int .u8 0, .int .u8 0, .int .u8 0, .int .u8 0, .int .u8 0, .int .u8 0, .int .u8 0, .int .u8 0, .int .u8 0, .int .u8 0, .int .u8 0, .int .u8 0, .int .u8 0, .int .u8 0, .int .u8 0, .int .u8 0, .int .u8 0, .int .u8 0, .int .u8 0] 23)).setRow w1.heap.size (u8s zero24).toArray) = W2 at *
  have hne := As.mk (show w.heap.size ≠ w1.heap.size by have := hlt.out; omega)
  have hge := As.mk (show w.heap.size ≤ w1.heap.size by have := hlt.out; omega)
  clear hlt
  obtain ⟨F, hF⟩ : ∃ F, w1.heap.size = F := ⟨_, rfl⟩
  rw [hF] at V2 hne hge ⊢
  clear hF
  go_loopw [13] (fun v wr => ∃ k : Nat, k ≤ q ∧ v = .int .i64 k ∧ Blk wr w.heap.size (u8s zero24) 23 ∧ Blk wr F (u8s (part (fun i => IntKind.wrap .u8 (colB (cs.getD i 0))) 24 k)) 23 ∧ Below w.heap.size w wr) (fun v _ => q - (intOf v).toNat)
  case atStart => exact ⟨0, by omega, rfl, V1, by rw [hp0]; exact V2, d0⟩
  case round =>
    obtain ⟨k, hk, rfl, X0, X1, hb⟩ := hrel
    clear V1 V2 d0 hp0
    by_cases hlt : k < q
    · have hlt' : (k : Int) < (q : Int) := by omega
      have hkl : k < cs.length := by omega
      have hkl' : (k : Int) < ((cs.length : Nat) : Int) := by omega
      have hk24 : (k : Int) < 24 := by omega
      have hbk := bytR_get ⟨cs.toArray⟩ k (by show k < cs.toArray.size; simpa using hkl)
      have hbl : bytR (⟨cs.toArray⟩ : ByteArray).data.toList k = bytR cs k := rfl
      rw [hbl] at hbk
      have kI := fun W => sh_strings_IndexByte ⟨#[119, 121, 114, 98, 103, 107]⟩ (bytR cs k) W
      have e : Lib.indexByte (⟨#[119, 121, 114, 98, 103, 107]⟩ : ByteArray).data.toList (bytR cs k).toNat.toUInt8 = colB (cs.getD k 0) := by unfold bytR colB; rw [nat_u8]
      simp only [e] at kI
      have hbd := bytR_bd cs k
      have hst : As ((part (fun i => IntKind.wrap .u8 (colB (cs.getD i 0))) 24 k).set k (IntKind.wrap .u8 (colB (cs.getD k 0))) = part (fun i => IntKind.wrap .u8 (colB (cs.getD i 0))) 24 (k + 1)) := ⟨part_set (fun i => IntKind.wrap .u8 (colB (cs.getD i 0))) 24 k⟩
      clear e hbl
      generalize colB (cs.getD k 0) = ci at *
      generalize bytR cs k = x at *
      obtain ⟨v2, d2⟩ := X1.some k (by rw [u8s_length, part_length]; omega)
      have f2 := X1.frozen k
      have X3 := X1.set k (.int .u8 (IntKind.wrap .u8 ci))
      rw [u8s_set, hst.out] at X3
      have X4 := X0.far (p := ⟨F, k, none⟩) hne.out (.int .u8 (IntKind.wrap .u8 ci))
      have hb4 := hb.setCell (p := ⟨F, k, none⟩) hge.out (.int .u8 (IntKind.wrap .u8 ci))
      clear X0 X1 hb
      go_wp2_with (fail)
      refine (kI _).mono ?_; rintro e w' ⟨rfl, rfl⟩
      go_wp2_with (fail)
      clear d2 f2 hbk
      go_roundw
      case rel => exact ⟨k + 1, by omega, by go_num, X4, X3, hb4⟩
      case measure => simp [intOf]; omega
    · obtain rfl : k = q := by omega
      have hgn : part (fun i => IntKind.wrap .u8 (colB (cs.getD i 0))) 24 k = gotN cs := by unfold gotN; rw [hq]
      rw [hgn] at X1
      clear hgn hq hq24 hql hlt
      have hgl := gotN_length cs
      have kt := fun W => FlagText_any (gotN cs) hgl (gotN_bytes cs) W
      rw [hg.out] at HE
      generalize gotN cs = gs at *
      by_cases hs0 : s = ⟨#[]⟩
      · have hr := As.mk (rd_none (HE.out.trans (if_pos (.inl hs0))))
        go_wp2_with (refine store_blk rfl 23 _ _ rfl _ rfl (ds := u8s zero24) rfl X0 info_fl (by rfl) (by rfl) (u8s_one _) ?_)
        refine ret_blk_tmp rfl _ rfl (X0.setRow _) Tryd.underlying23 rfl info_fl (by rfl) rfl ⟨ret_v (by rw [hr.out.1, hr.out.2]; rfl), bl_setRow hb (Nat.le_refl _) _⟩
      · have he := toList_some hs0
        by_cases hft : flagText gs = s
        · have hr := As.mk (rd_some (HE.out.trans (if_neg (by rintro (h | h); exact hs0 h; exact h hft))))
          have he2 : ((flagText gs).toList == s.toList) = true := by rw [hft]; simp
          have he3 : ((flagText gs).toList != s.toList) = false := by rw [hft]; simp
          clear hs0 HE hft
          generalize flagText gs = ft at *
          go_wp2_with (refine load_blk (by kernel_rfl) 23 _ rfl _ rfl X1 Tryd.underlying23 rfl info_fl (by rw [u8s_length]; exact hgl) ?_)
          refine (kt _).mono ?_; rintro e w2 ⟨rfl, hb2⟩
          have Y0 := X0.kept hb2
          have Y1 := X1.kept hb2
          have b2 := bl_call hb hb2
          go_wp2_with (first | (refine load_blk rfl 23 _ rfl _ rfl Y1 Tryd.underlying23 rfl info_fl (by rw [u8s_length]; exact hgl) ?_) | (refine store_blk rfl 23 _ _ rfl _ rfl rfl Y0 info_fl (by rw [u8s_length]; exact hgl) (by rw [u8s_length]; exact hz) (u8s_one _) ?_))
          refine ret_blk_tmp rfl _ rfl (Y0.setRow _) Tryd.underlying23 rfl info_fl (by rw [u8s_length]; exact hgl) rfl ⟨ret_v (by rw [hr.out.1, hr.out.2]; rfl), bl_setRow b2 (Nat.le_refl _) _⟩
        · have hr := As.mk (rd_none (HE.out.trans (if_pos (.inr hft))))
          have he2 := toList_ne2 hft
          have he3 : ((flagText gs).toList != s.toList) = true := by unfold bne; rw [he2]; rfl
          clear hs0 HE hft
          generalize flagText gs = ft at *
          go_wp2_with (refine load_blk (by kernel_rfl) 23 _ rfl _ rfl X1 Tryd.underlying23 rfl info_fl (by rw [u8s_length]; exact hgl) ?_)
          refine (kt _).mono ?_; rintro e w2 ⟨rfl, hb2⟩
          have Y0 := X0.kept hb2
          have b2 := bl_call hb hb2
          go_wp2_with (refine store_blk rfl 23 _ _ rfl _ rfl (ds := u8s zero24) rfl Y0 info_fl (by rfl) (by rfl) (u8s_one _) ?_)
          refine ret_blk_tmp rfl _ rfl (Y0.setRow _) Tryd.underlying23 rfl info_fl (by rfl) rfl ⟨ret_v (by rw [hr.out.1, hr.out.2]; rfl), bl_setRow b2 (Nat.le_refl _) _⟩
end Go.Proofs.YtjppoejkfpeicaaDoor
