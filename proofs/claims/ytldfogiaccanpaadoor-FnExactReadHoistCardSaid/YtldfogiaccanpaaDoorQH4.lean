/- Contracts and plain facts, several texts in one. -/
import Derived.Test.YtldfogiaccanpaaDoorQH1
import Derived.Test.YtldfogiaccanpaaDoorQH3
import Derived.Test.YtldfogiaccanpaaDoorQH2
/- Contracts: impl.number, up to 39. -/
set_option linter.unusedVariables false
set_option linter.unusedSimpArgs false
namespace Go.Proofs.YtldfogiaccanpaaDoor
open Go.RowKit

set_option maxRecDepth 100000 in
set_option maxHeartbeats 2000000 in
theorem number_any (s : ByteArray) (hs : s.size ≤ 1048576) (w : World) (hv : LV w) :
    Calls Tryd.prog 15 #[.string s, .int .i64 39] w fun e w' => e = .returned (.tuple #[.int .i64 (nV s.data.toList), .bool (nB s.data.toList)]) ∧ Below w.heap.size w w' := by
  have kp := parse_any s hs w hv
  have HO := As.mk (fun v => @num_ok s.data.toList v)
  have HN := As.mk (@num_no s.data.toList)
  have HB := As.mk (fun v h => @Lib.parseIntB_bounds 64 s.data.toList v h)
  generalize nV s.data.toList = nv at *
  generalize nB s.data.toList = nb at *
  go_enter Tryd.func15, Tryd.ntmps15
  go_wp2_with (fail)
  refine kp.mono ?_; rintro e w1 ⟨⟨v, er, rfl, hor⟩, hb1⟩
  rcases hor with ⟨hq, rfl⟩ | ⟨hq, t, p, rfl⟩
  · have hbd := HB.out v hq
    have hv1 := hv.kept hb1
    have e63 : ((2 ^ (64 - 1) : Nat) : Int) = 9223372036854775808 := by decide
    rw [e63] at hbd
    have kd := decimal_all v (by omega) (by omega) w1 hv1
    have kw := fun W => within_any v 0 39 W
    have hd : (⟨(Lib.itoa v).toArray⟩ : ByteArray).data.toList = Lib.itoa v := rfl
    generalize hU : (⟨(Lib.itoa v).toArray⟩ : ByteArray) = U at *
    clear hU hbd e63
    by_cases he : Lib.itoa v = s.data.toList
    · have hU : U.toList = s.toList := by rw [ByteArray.toList_eq, ByteArray.toList_eq, hd, he]
      have hU1 : (U.toList == s.toList) = true := by rw [hU]; simp
      have hU2 : decide (U.toList = s.toList) = true := decide_eq_true hU
      by_cases hr : 0 ≤ v ∧ v ≤ 39
      · obtain ⟨h1, h2⟩ := HO.out v hq he hr.1 hr.2
        have hin : inR v 0 39 = true := by simp [inR]; exact hr
        subst h1 h2
        rw [hin] at kw
        clear HO HN HB he
        go_wp2_with (fail)
        refine kd.mono ?_; rintro e w2 ⟨rfl, hb2⟩
        go_wp2_with (go_at_call 16; refine (kw _).mono ?_; rintro e w' ⟨rfl, rfl⟩)
        go_ret2
        exact ⟨rfl, bl_call hb1 hb2⟩
      · obtain ⟨h1, h2⟩ := HN.out (fun v' e' => by rw [hq] at e'; cases e'; exact fun a => hr a.2)
        have hin : inR v 0 39 = false := by simp [inR]; omega
        subst h1 h2
        rw [hin] at kw
        clear HO HN HB he hr
        go_wp2_with (fail)
        refine kd.mono ?_; rintro e w2 ⟨rfl, hb2⟩
        go_wp2_with (go_at_call 16; refine (kw _).mono ?_; rintro e w' ⟨rfl, rfl⟩)
        go_ret2
        exact ⟨rfl, bl_call hb1 hb2⟩
    · obtain ⟨h1, h2⟩ := HN.out (fun v' e' => by rw [hq] at e'; cases e'; exact fun a => he a.1)
      have hU : U.toList ≠ s.toList := by rw [ByteArray.toList_eq, ByteArray.toList_eq, hd]; exact he
      have hU1 : (U.toList == s.toList) = false := by rw [beq_eq_false_iff_ne]; exact hU
      have hU2 : decide (U.toList = s.toList) = false := decide_eq_false hU
      subst h1 h2
      clear HO HN HB he
      go_wp2_with (fail)
      refine kd.mono ?_; rintro e w2 ⟨rfl, hb2⟩
      go_wp2_with (fail)
      go_ret2
      exact ⟨rfl, bl_call hb1 hb2⟩
  · obtain ⟨h1, h2⟩ := HN.out (fun v' e' => absurd e' (hq v'))
    subst h1 h2
    clear HO HN HB hq
    go_wp2_with (fail)
    go_ret2
    exact ⟨rfl, hb1⟩
end Go.Proofs.YtldfogiaccanpaaDoor

/- Contracts: impl.ReadHoist. -/
set_option linter.unusedVariables false
set_option linter.unusedSimpArgs false
namespace Go.Proofs.YtldfogiaccanpaaDoor
open Go.RowKit

theorem Blk.byGrown3 {w w' : World} {b : Nat} {cs : List Value} {t : TypeId} {row : Option Nat} (h : Blk w b cs t) (hg : w.grownBy w' row) (hne : row ≠ Option.some b) : Blk w' b cs t :=
  (hg.block b h.lt (fun e => hne e.symm)).trans h
theorem split_any (s : ByteArray) (hs : s.size ≤ 1048576) (w : World) (hv : LV w) :
    Calls Tryd.prog 13 #[.string s, .string ⟨#[32]⟩] w fun e w' => e = .returned (.slice (some ⟨w.heap.size, 0, none⟩) (wordsB s).length (wordsB s).length) ∧ w' = w.alloc (.cells (strs (wordsB s)).toArray 9) := by
  obtain ⟨m, hm⟩ := hv.ml
  have h := sh_strings_Split s ⟨#[32]⟩ m w (by omega) hm (by decide)
  have hl := Lib.splitB_all ⟨#[32]⟩ (by decide) 0 _ s rfl
  rw [← hl, split_words] at h
  exact h
def restB (u : ByteArray) : ByteArray := ⟨(restW u.data.toList).toArray⟩
theorem cutp_any (u : ByteArray) (w : World) :
    Calls Tryd.prog 14 #[.string u, .string ⟨#[115]⟩] w fun e w' => e = .returned (.tuple #[.string (restB u), .bool (subW u.data.toList)]) ∧ w = w' := by
  refine (sh_strings_CutPrefix u ⟨#[115]⟩ w).mono fun e w' h => ⟨?_, h.2.symm⟩
  rw [h.1]
  unfold restB
  rw [← rest_trim, ← sub_prefix]
theorem restB_size (u : ByteArray) : (restB u).size ≤ u.size := by
  have h1 : (restB u).size = (restW u.data.toList).length := by unfold restB; simp [ByteArray.size]
  rw [h1, ← str_len]
  unfold restW
  split
  · rw [List.length_drop]; omega
  · exact Nat.le_refl _
set_option maxRecDepth 100000 in
set_option maxHeartbeats 8000000 in
theorem ReadHoist_any (s : ByteArray) (hs : s.size ≤ 1048576) (w : World) (hv : LV w) :
    Calls Tryd.prog 5 #[.string s] w fun e w' => Gave 31 (i8s (rhL (cutW s.data.toList))) (rhC (cutW s.data.toList)) w.heap.size e w' ∧ Below w.heap.size w w' := by
  have hcount := words_count s
  have hwl := words_len s
  have hwa := As.mk (word_at s)
  have HR := As.mk (fun k h => @rh_none (cutW s.data.toList) k h)
  have HB := As.mk (fun h => @rh_bad (cutW s.data.toList) h)
  have HG := As.mk (fun h => @rh_good (cutW s.data.toList) h)
  have HLg := As.mk (@rh_long (cutW s.data.toList))
  have HS := As.mk (fun k h x => @toks_step (cutW s.data.toList) k h x)
  have HT := As.mk (fun k h => @toks_stop (cutW s.data.toList) k h)
  have HN := As.mk (fun k h => @toks_len (cutW s.data.toList) k h)
  have HD := As.mk (fun k h => @toks_bd (cutW s.data.toList) k h)
  have HM := As.mk (fun h => @toks_small s.data.toList h)
  have hlen := str_len s
  rw [hlen] at HM
  have b0 := bl_new (Below.refl _ w) (.cells ([] : List Value).toArray 31)
  have ksp := fun W h => split_any s hs W h
  have O0 := Own.lit w w.heap.size 31 [] (Nat.le_refl _) (by simp)
  have v0 := hv.kept b0
  generalize cutW s.data.toList = W at *
  generalize wordsB s = ws at *
  obtain ⟨n, hn⟩ : ∃ n, ws.length = n := ⟨_, rfl⟩
  rw [hn] at ksp
  go_enter Tryd.func5, Tryd.ntmps5
  go_wp2_with (fail)
  have hb1 := bl_new b0 (.cells (strs ws).toArray 9)
  have O1 := O0.alloc (.cells (strs ws).toArray 9)
  have hB0 : Blk ((w.alloc (.cells ([] : List Value).toArray 31)).alloc (.cells (strs ws).toArray 9)) (w.alloc (.cells ([] : List Value).toArray 31)).heap.size (strs ws) 9 := Blk.mk _ _ _ rfl
  have hBw : w.heap.size < (w.alloc (.cells ([] : List Value).toArray 31)).heap.size := by simp
  refine (ksp _ v0).mono ?_; rintro e w1 ⟨rfl, rfl⟩
  generalize ((w.alloc (.cells ([] : List Value).toArray 31)).alloc (.cells (strs ws).toArray 9)) = w1 at *
  generalize (w.alloc (.cells ([] : List Value).toArray 31)).heap.size = B at *
  clear O0 v0 ksp b0
  go_wp2_with (fail)
  go_loopw [4, 15] (fun o i wr => ∃ (k : Nat) (h : List Int), k ≤ n ∧ i = .int .i64 k ∧ Own wr w.heap.size 31 o (i8s h) ∧ As (o.ownBlock ≠ some B) ∧ Blk wr B (strs ws) 9 ∧ As (toks W k = some h) ∧ Below w.heap.size w wr) (fun _ i _ => n - (intOf i).toNat)
  case atStart => exact ⟨0, [], by omega, rfl, O1, ⟨by simp [Value.ownBlock]; omega⟩, hB0, ⟨rfl⟩, hb1⟩
  case round =>
    obtain ⟨k, h, hk, rfl, HO, HP, hBl, HK, hb⟩ := hrel
    clear O1 hB0 hb1
    have hhl := HN.out k h HK.out
    have hsl := i8s_length h
    have hBlt := hBl.lt
    by_cases hlt : k < n
    · have hlt' : (k : Int) < (n : Int) := by omega
      obtain ⟨hu1, hu2⟩ := hwa.out k (by omega)
      have c0 : wr.cell? ⟨B, k, none⟩ = some (.string (nthS ws k)) := by rw [hBl.at, strs_get ws k (by omega)]
      have hst := As.mk (fun x => HS.out k h x HK.out)
      have hsp := As.mk (HT.out k h HK.out)
      have hrn := As.mk (fun e => HR.out (k + 1) e (by omega))
      generalize nthS ws k = u at *
      rw [← hu1] at hst hsp
      clear hu1
      have hbad : As (tok u.data.toList = none → rhL W = [] ∧ rhC W = 5) := ⟨fun e => hrn.out (hsp.out e)⟩
      have hlong : As (k = 8 → rhL W = [] ∧ rhC W = 5) := ⟨fun e => HLg.out (by omega)⟩
      by_cases hsl' : u = ⟨#[47]⟩
      · subst hsl'
        have hx := As.mk (hst.out _ (tok_slash (w := (⟨#[47]⟩ : ByteArray).data.toList) rfl))
        clear hst hsp hrn hbad hlong
        go_wp2_with (at_builtin; refine app1 (w0 := w) (w.heap.size) rfl (.tmp 21) (.tmp 22) 23 31 (.int .i8 0) 1 rfl Tryd.underlying23 info_i8 rfl (by omega) (_) ((i8s h)) (.int .i8 (-10)) rfl rfl rfl HO hb hb.size (by rw [hsl]; omega) ?_)
        rintro v1 w2 O2 hb2 hg2 ho2
        rw [i8s_snoc] at O2
        have hB2 := hBl.byGrown3 hg2 HP.out
        have HP2 : As (v1.ownBlock ≠ some B) := ⟨by rcases ho2 with e | ⟨b, e, hb'⟩; rw [e]; exact HP.out; rw [e]; simp; omega⟩
        clear hg2 ho2
        go_wp2
        go_roundw
        case rel => exact ⟨k + 1, _, by omega, by go_num, O2, HP2, hB2, hx, hb2⟩
        case measure => simp [intOf]; omega
      · have hne := str_ne47 hsl'
        have hne1 : (u.toList == [47]) = false := by rw [beq_eq_false_iff_ne]; exact hne
        have hne2 : decide (u.toList = [47]) = false := decide_eq_false hne
        have hw47 : As (u.data.toList ≠ [47]) := ⟨fun e => hsl' (ByteArray.ext (Array.toList_inj.1 e))⟩
        have hrs := restB_size u
        have hvr := hv.kept hb
        have kc := fun W => cutp_any u W
        have kn := number_any (restB u) (by omega) wr hvr
        have kw := fun (a : Int) W => within_any a 1 4 W
        have hrd : (restB u).data.toList = restW u.data.toList := rfl
        rw [hrd] at kn
        have hT0 := As.mk (fun h1 => tok_none hw47.out h1)
        have hT1 := As.mk (fun n h1 h2 => tok_plain (n := n) hw47.out h1 h2)
        have hT2 := As.mk (fun n h1 h2 => tok_sub (n := n) hw47.out h1 h2)
        have hT3 := As.mk (fun n h1 h2 => tok_sub_no (n := n) hw47.out h1 h2)
        clear hsl' hrs hrd
        generalize restB u = r at *
        cases hno : numOf (restW u.data.toList) with
        | none =>
          obtain ⟨n1, n2⟩ := num_none hno
          rw [n1, n2] at kn
          have hbd := As.mk (hbad.out (hT0.out hno))
          generalize subW u.data.toList = sb at *
          clear hT0 hT1 hT2 hT3 hbad hst hsp hrn hlong n1 n2 hno
          go_wp2_with (fail)
          refine (kc _).mono ?_; rintro e w2 ⟨rfl, rfl⟩
          go_wp2_with (fail)
          refine kn.mono ?_; rintro e w2 ⟨rfl, hb2⟩
          go_wp2_with (fail)
          go_ret2
          rw [hbd.out.1, hbd.out.2]
          exact ⟨⟨_, rfl, by exact Own.nil _ _ _⟩, bl_call hb hb2⟩
        | some m =>
          obtain ⟨n1, n2⟩ := num_some hno
          rw [n1, n2] at kn
          have hm40 := (numOf_some hno).1
          cases hsub : subW u.data.toList
          · have hx := As.mk (hst.out _ (hT1.out m hno hsub))
            have hwr : IntKind.wrap .i8 (m : Int) = (m : Int) := wrap_i8 _ (by omega) (by omega)
            rw [hsub] at kc
            by_cases h8 : k = 8
            · have hbd := As.mk (hlong.out h8)
              have h8' : ((k : Int) == 8) = true := by simp [h8]
              clear hT0 hT1 hT2 hT3 hbad hst hsp hrn hlong n1 n2 hno hsub h8
              go_wp2_with (fail)
              refine (kc _).mono ?_; rintro e w2 ⟨rfl, rfl⟩
              go_wp2_with (fail)
              refine kn.mono ?_; rintro e w2 ⟨rfl, hb2⟩
              obtain ⟨A', c', rfl, S'⟩ := HO.sl
              rw [hhl]
              go_wp2_with (fail)
              go_ret2
              rw [hbd.out.1, hbd.out.2]
              exact ⟨⟨_, rfl, by exact Own.nil _ _ _⟩, bl_call hb hb2⟩
            · have h8' : ((k : Int) == 8) = false := by rw [beq_eq_false_iff_ne]; omega
              have h8'' : ¬ ((k : Int) = 8) := by omega
              clear hT0 hT1 hT2 hT3 hbad hst hsp hrn hlong n1 n2 hno hsub h8
              go_wp2_with (fail)
              refine (kc _).mono ?_; rintro e w2 ⟨rfl, rfl⟩
              go_wp2_with (fail)
              refine kn.mono ?_; rintro e w2 ⟨rfl, hb2⟩
              have HO2 := HO.kept hb2
              have hBl2 := hBl.kept hb2
              have hbb := bl_call hb hb2
              have hBlt2 := hBl2.lt
              clear HO hBl hb hb2 hBlt
              obtain ⟨A', c', rfl, S'⟩ := HO2.sl
              rw [hhl]
              rw [hhl] at HO2 HP
              go_wp2_with (at_builtin; refine app1 (w0 := w) (w.heap.size) rfl (.tmp 52) (.tmp 55) 23 31 (.int .i8 0) 1 rfl Tryd.underlying23 info_i8 rfl (by omega) _ (i8s h) (.int .i8 (m : Int)) rfl rfl rfl HO2 hbb hbb.size (by rw [hsl]; omega) ?_)
              rintro v1 w3 O2 hb3 hg2 ho2
              rw [i8s_snoc] at O2
              have hB2 := hBl2.byGrown3 hg2 HP.out
              have HP2 : As (v1.ownBlock ≠ some B) := ⟨by rcases ho2 with e | ⟨b, e, hb'⟩; rw [e]; exact HP.out; rw [e]; simp; omega⟩
              clear hg2 ho2
              go_wp2
              go_roundw
              case rel => exact ⟨k + 1, _, by omega, by go_num, O2, HP2, hB2, hx, hb3⟩
              case measure => simp [intOf]; omega
          · rw [hsub] at kc
            by_cases h14 : 1 ≤ m ∧ m ≤ 4
            · have hin : inR (m : Int) 1 4 = true := by simp [inR]; omega
              have hx := As.mk (hst.out _ (hT2.out m hno hsub h14))
              have hwr : IntKind.wrap .i8 (-(m : Int)) = -(m : Int) := wrap_i8 _ (by omega) (by omega)
              by_cases h8 : k = 8
              · have hbd := As.mk (hlong.out h8)
                have h8' : ((k : Int) == 8) = true := by simp [h8]
                clear hT0 hT1 hT2 hT3 hbad hst hsp hrn hlong n1 n2 hno hsub h8
                go_wp2_with (fail)
                refine (kc _).mono ?_; rintro e w2 ⟨rfl, rfl⟩
                go_wp2_with (fail)
                refine kn.mono ?_; rintro e w2 ⟨rfl, hb2⟩
                obtain ⟨A', c', rfl, S'⟩ := HO.sl
                rw [hhl]
                go_wp2_with (go_at_call 16; refine (kw _ _).mono ?_; rintro e w' ⟨rfl, rfl⟩; rw [hin])
                go_ret2
                rw [hbd.out.1, hbd.out.2]
                exact ⟨⟨_, rfl, by exact Own.nil _ _ _⟩, bl_call hb hb2⟩
              · have h8' : ((k : Int) == 8) = false := by rw [beq_eq_false_iff_ne]; omega
                have h8'' : ¬ ((k : Int) = 8) := by omega
                clear hT0 hT1 hT2 hT3 hbad hst hsp hrn hlong n1 n2 hno hsub h8
                go_wp2_with (fail)
                refine (kc _).mono ?_; rintro e w2 ⟨rfl, rfl⟩
                go_wp2_with (fail)
                refine kn.mono ?_; rintro e w2 ⟨rfl, hb2⟩
                have HO2 := HO.kept hb2
                have hBl2 := hBl.kept hb2
                have hbb := bl_call hb hb2
                have hBlt2 := hBl2.lt
                clear HO hBl hb hb2 hBlt
                obtain ⟨A', c', rfl, S'⟩ := HO2.sl
                rw [hhl]
                rw [hhl] at HO2 HP
                go_wp2_with (first | (go_at_call 16; refine (kw _ _).mono ?_; rintro e w' ⟨rfl, rfl⟩; rw [hin]) | (at_builtin; refine app1 (w0 := w) (w.heap.size) rfl (.tmp 52) (.tmp 55) 23 31 (.int .i8 0) 1 rfl Tryd.underlying23 info_i8 rfl (by omega) _ (i8s h) (.int .i8 (-(m : Int))) rfl rfl rfl HO2 hbb hbb.size (by rw [hsl]; omega) ?_))
                rintro v1 w3 O2 hb3 hg2 ho2
                rw [i8s_snoc] at O2
                have hB2 := hBl2.byGrown3 hg2 HP.out
                have HP2 : As (v1.ownBlock ≠ some B) := ⟨by rcases ho2 with e | ⟨b, e, hb'⟩; rw [e]; exact HP.out; rw [e]; simp; omega⟩
                clear hg2 ho2
                go_wp2
                go_roundw
                case rel => exact ⟨k + 1, _, by omega, by go_num, O2, HP2, hB2, hx, hb3⟩
                case measure => simp [intOf]; omega
            · have hin : inR (m : Int) 1 4 = false := by simp [inR]; omega
              have hbd := As.mk (hbad.out (hT3.out m hno hsub h14))
              clear hT0 hT1 hT2 hT3 hbad hst hsp hrn hlong n1 n2 hno hsub h14
              go_wp2_with (fail)
              refine (kc _).mono ?_; rintro e w2 ⟨rfl, rfl⟩
              go_wp2_with (fail)
              refine kn.mono ?_; rintro e w2 ⟨rfl, hb2⟩
              go_wp2_with (go_at_call 16; refine (kw _ _).mono ?_; rintro e w' ⟨rfl, rfl⟩; rw [hin])
              go_ret2
              rw [hbd.out.1, hbd.out.2]
              exact ⟨⟨_, rfl, by exact Own.nil _ _ _⟩, bl_call hb hb2⟩
    · obtain rfl : k = n := by omega
      have hWn : W.length = k := by omega
      have hbd := HD.out k h HK.out
      have hK2 := HK.out
      rw [← hWn] at hK2
      have hroom := HM.out h
      obtain ⟨A', c', rfl, S'⟩ := HO.sl
      have hG := As.mk (HG.out h hK2)
      have hB := As.mk (HB.out h hK2)
      have hl2 : h.length ≤ 1048576 := by have := hroom hK2; omega
      have kok := fun W Sx => ValidHoist_any h A' c' W Sx (fun x hx => by have := hbd x hx; omega) hl2
      simp only [hhl] at kok
      rw [hhl] at HO
      clear hK2 hbd hroom
      go_wp2_with (fail)
      refine (kok _ S').mono ?_; rintro e w2 ⟨rfl, hb2⟩
      cases hq : hOk h
      · have hno := As.mk (hB.out hq)
        go_wp2_with (fail)
        go_ret2
        rw [hno.out.1, hno.out.2]
        exact ⟨⟨_, rfl, by exact Own.nil _ _ _⟩, bl_call hb hb2⟩
      · have hyes := As.mk (hG.out hq)
        go_wp2_with (fail)
        go_ret2
        rw [hyes.out.1, hyes.out.2]
        exact ⟨⟨_, rfl, by exact HO.kept hb2⟩, bl_call hb hb2⟩
end Go.Proofs.YtldfogiaccanpaaDoor

/- Walk: the law of ReadHoist. -/
set_option linter.unusedVariables false
set_option linter.unusedSimpArgs false
namespace Go.Proofs.YtldfogiaccanpaaDoor
open Go.RowKit

set_option maxHeartbeats 2000000 in
theorem walk_FnExactReadHoist (x0 : ByteArray) (r0 : x0.size ≤ maxLen) (w : World) (hv : LV w) :
    Calls Tryd.prog 3 #[.string x0] w fun e w' => e = .returned (.bool true) ∧ Below w.heap.size w w' := by
  by_cases h0 : x0.size ≤ 1048576
  · have h0' : ((x0.size : Nat) : Int) ≤ 1048576 := by omega
    have k1 := fun W => sReadHoist_any x0 h0 W
    have k2 := fun W h => ReadHoist_any x0 h0 W h
    have hl := (rh_bd (cutW x0.data.toList)).1
    generalize rhL (cutW x0.data.toList) = ys at *
    generalize rhC (cutW x0.data.toList) = vc at *
    go_enter Tryd.func3, Tryd.ntmps3
    go_wp2_with (fail)
    refine (k1 _).mono ?_; rintro e w1 ⟨⟨v1, rfl, O1⟩, hb1⟩
    have b1 := hb1
    obtain ⟨B1, d1, rfl, S1⟩ := O1.sl
    clear O1
    go_wp2_with (fail)
    refine (k2 _ (hv.kept b1)).mono ?_; rintro e w2 ⟨⟨v2, rfl, O2⟩, hb2⟩
    have b2 := bl_call b1 hb2
    have q2 := hb2
    obtain ⟨B2, d2, rfl, S2⟩ := O2.sl
    clear S2
    go_wp2_with (fail)
    refine (eqHoist_any _ _ _ _ _ _ _ O2.sl' (S1.kept q2)).mono ?_; rintro e w3 ⟨rfl, hb3⟩
    have b3 := bl_call b2 hb3
    have q3 := bl_call q2 hb3
    replace O2 := O2.kept hb3
    go_wp2_with (fail)
    refine (markHoist_any _ _ _ 1 (by omega) (by omega) _ O2).mono ?_; rintro e w4 ⟨rfl, M, g4⟩
    have b4 := bl_grown b3 b3.size O2 g4 b1.size
    have q4 := bl_grown q3 q3.size O2 g4 (Nat.le_refl _)
    clear O2
    have mm : ¬ ((1 : Int) + (ys.length : Int) < 0) := by omega
    go_wp2_with (fail)
    refine (heldHoist_any _ _ _ 1 (by omega) (by omega) _ M.slN).mono ?_; rintro e w5 ⟨rfl, hb5⟩
    have b5 := bl_call b4 hb5
    have q5 := bl_call q4 hb5
    replace M := M.kept hb5
    go_wp2_with (fail)
    refine (k2 _ (hv.kept b5)).mono ?_; rintro e w6 ⟨⟨v3, rfl, O3⟩, hb6⟩
    have b6 := bl_call b5 hb6
    have q6 := bl_call q5 hb6
    replace M := M.kept hb6
    obtain ⟨B3, d3, rfl, S3⟩ := O3.sl
    go_wp2_with (fail)
    refine (eqHoist_any _ _ _ _ _ _ _ S3 (S1.kept q6)).mono ?_; rintro e w7 ⟨rfl, hb7⟩
    have b7 := bl_call b6 hb7
    have q7 := bl_call q6 hb7
    replace M := M.kept hb7
    go_wp2_with (fail)
    refine (heldHoist_any _ _ _ 1 (by omega) (by omega) _ M.slN).mono ?_; rintro e w8 ⟨rfl, hb8⟩
    have b8 := bl_call b7 hb8
    go_wp2_with (fail)
    go_ret
    exact ⟨by simp, b8⟩
  · have h0' : (1048576 : Int) < ((x0.size : Nat) : Int) := by omega
    go_enter Tryd.func3, Tryd.ntmps3
    go_wp2_with (fail)
    go_ret
    exact ⟨rfl, Below.refl _ _⟩
end Go.Proofs.YtldfogiaccanpaaDoor
