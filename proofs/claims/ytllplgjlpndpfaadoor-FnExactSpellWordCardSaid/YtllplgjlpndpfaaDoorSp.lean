/- Contracts: SpellWord: both sides. -/
import Derived.Test.YtllplgjlpndpfaaDoorH5
import Derived.Test.YtllplgjlpndpfaaDoorTm
set_option linter.unusedVariables false
namespace Go.Proofs.YtllplgjlpndpfaaDoor
open Go.RowKit

/-- Byte k of a string. -/
def byt (s : ByteArray) (k : Nat) : Int := ((s.data.toList.getD k 0).toNat : Int)
theorem byt_bd (s : ByteArray) (k : Nat) : 0 ≤ byt s k ∧ byt s k ≤ 255 := by
  unfold byt
  have := (s.data.toList.getD k 0).toNat_lt
  omega
theorem byt_get (s : ByteArray) (k : Nat) (h : k < s.size) : ((s[k]'h).toNat : Int) = byt s k := by
  have h' : k < s.data.size := h
  unfold byt
  rw [List.getD_eq_getElem?_getD, List.getElem?_eq_getElem (by rw [Array.length_toList]; exact h')]
  rfl
def isLet (n : Int) : Bool := inR n 97 122
def lets (s : ByteArray) : Bool := (List.range s.size).all fun k => isLet (byt s k)
theorem lets_at {s : ByteArray} (h : lets s = true) (k : Nat) (hk : k < s.size) : 97 ≤ byt s k ∧ byt s k ≤ 122 := by
  unfold lets at h
  rw [List.all_eq_true] at h
  exact (inR_iff _ _ _).1 (h k (List.mem_range.2 hk))
theorem lets_bad {s : ByteArray} (k : Nat) (hk : k < s.size) (h : ¬ (97 ≤ byt s k ∧ byt s k ≤ 122)) : lets s = false := by
  unfold lets; rw [List.all_eq_false]
  exact ⟨k, List.mem_range.2 hk, by unfold isLet; rw [(inR_not _ _ _).2 h]; simp⟩
theorem lets_good {s : ByteArray} (h : ∀ k, k < s.size → 97 ≤ byt s k ∧ byt s k ≤ 122) : lets s = true := by
  unfold lets; rw [List.all_eq_true]
  intro k hk
  exact (inR_iff _ _ _).2 (h k (List.mem_range.1 hk))
def abc : ByteArray := ⟨#[97, 98, 99, 100, 101, 102, 103, 104, 105, 106, 107, 108, 109, 110, 111, 112, 113, 114, 115, 116, 117, 118, 119, 120, 121, 122]⟩
theorem abc_has (b : UInt8) : abc.data.toList.contains b = isLet (b.toNat : Int) := by
  have key : ∀ m : Fin 256, abc.data.toList.contains (UInt8.ofNat m.1) = isLet (m.1 : Int) := by decide +kernel
  have := key ⟨b.toNat, b.toNat_lt⟩
  simpa using this
theorem dropWhile_nil {α : Type} (p : α → Bool) : ∀ l : List α, l.dropWhile p = [] ↔ ∀ x ∈ l, p x = true
  | [] => by simp
  | x :: l => by
    rw [List.dropWhile_cons]
    cases h : p x
    · simp [h]
    · simp [h, dropWhile_nil p l]
theorem trim_nil (l cs : List UInt8) : Lib.trimS l cs = [] ↔ ∀ x ∈ l, cs.contains x = true := by
  unfold Lib.trimS Lib.trimLeftS Lib.trimRightS
  rw [dropWhile_nil]
  constructor
  · intro h x hx
    by_cases hn : (List.dropWhile (fun x => cs.contains x) l.reverse) = []
    · rw [dropWhile_nil] at hn; exact hn x (by simpa using hx)
    · obtain ⟨y, ys, he⟩ := List.exists_cons_of_ne_nil hn
      have h1 := h y (by rw [he]; simp)
      have h2 := List.head_dropWhile_not (p := fun x => cs.contains x) (l := l.reverse) hn
      simp only [he, List.head_cons] at h2
      rw [h1] at h2; simp at h2
  · intro h x hx
    rw [List.mem_reverse] at hx
    exact h x (by simpa using (List.dropWhile_sublist _).subset hx)
theorem trim_lets (s : ByteArray) : Lib.trimS s.data.toList abc.data.toList = [] ↔ lets s = true := by
  rw [trim_nil]
  constructor
  · intro h
    refine lets_good fun k hk => ?_
    have hk' : k < s.data.toList.length := by rw [Array.length_toList]; exact hk
    have := h _ (List.getElem_mem hk')
    rw [abc_has] at this
    have e : byt s k = ((s.data.toList[k]).toNat : Int) := by unfold byt; rw [List.getD_eq_getElem?_getD, List.getElem?_eq_getElem hk']; rfl
    rw [e]; exact (inR_iff _ _ _).1 this
  · intro h x hx
    obtain ⟨k, hk, rfl⟩ := List.mem_iff_getElem.1 hx
    rw [abc_has]
    have hk' : k < s.size := by rw [Array.length_toList] at hk; exact hk
    have e : byt s k = ((s.data.toList[k]).toNat : Int) := by unfold byt; rw [List.getD_eq_getElem?_getD, List.getElem?_eq_getElem hk]; rfl
    rw [← e]; exact (inR_iff _ _ _).2 (lets_at h k hk')
/-- The meaning that spells the first k letters. -/
def spG (s : ByteArray) (g : Int) : Nat → List Int
  | 0 => []
  | k + 1 => (if 0 < k ∧ (k : Int) % g = 0 then spG s g k ++ [-10] else spG s g k) ++ [byt s k - 97]
theorem spG_len (s : ByteArray) (g : Int) : ∀ k, (spG s g k).length ≤ 2 * k
  | 0 => Nat.le_refl _
  | k + 1 => by
    have ih := spG_len s g k
    unfold spG
    split
    · rw [List.length_append, List.length_append]; simp; omega
    · rw [List.length_append]; simp; omega
theorem spG_t (s : ByteArray) (g : Int) (k : Nat) (h : 0 < k ∧ (k : Int) % g = 0) : spG s g (k + 1) = spG s g k ++ [-10] ++ [byt s k - 97] := by
  show (if _ then _ else _) ++ _ = _
  rw [if_pos h]
theorem spG_f (s : ByteArray) (g : Int) (k : Nat) (h : ¬ (0 < k ∧ (k : Int) % g = 0)) : spG s g (k + 1) = spG s g k ++ [byt s k - 97] := by
  show (if _ then _ else _) ++ _ = _
  rw [if_neg h]
def wordB (s : ByteArray) : Bool := lets s && inR (s.size : Int) 1 8
def spOk (s : ByteArray) (g : Int) : Bool := inR g 1 8 && wordB s
def spL (s : ByteArray) (g : Int) : List Int := if spOk s g && decide ((spG s g s.size).length ≤ 8) then spG s g s.size else []
def spC (s : ByteArray) (g : Int) : Int := if spOk s g then (if decide ((spG s g s.size).length ≤ 8) then 0 else 3) else 2
theorem spL_le (s : ByteArray) (g : Int) : (spL s g).length ≤ 8 := by
  unfold spL
  split
  · rename_i h
    simp only [Bool.and_eq_true, decide_eq_true_eq] at h
    exact h.2
  · simp

theorem l03Word_any (s : ByteArray) (hs : s.size ≤ 1048576) (w : World) : Calls Tryd.prog 15 #[.string s] w fun e w' => e = .returned (.bool (wordB s)) ∧ Below w.heap.size w w' := by
  have HW := As.mk (show wordB s = (lets s && inR (s.size : Int) 1 8) from rfl)
  obtain ⟨n, hm⟩ : ∃ n, s.size = n := ⟨_, rfl⟩
  have HM := As.mk hm
  rw [hm] at hs
  go_enter Tryd.func15, Tryd.ntmps15
  go_wp2
  go_loopw [3] (fun i wr => ∃ k : Nat, k ≤ n ∧ i = .int .i64 k ∧ As (∀ j, j < k → 97 ≤ byt s j ∧ byt s j ≤ 122) ∧ Below w.heap.size w wr) (fun i _ => n - (intOf i).toNat)
  case atStart => exact ⟨0, by omega, rfl, ⟨fun j hj => by omega⟩, Below.refl _ _⟩
  case round =>
    obtain ⟨k, hk, rfl, H, hb⟩ := hrel
    by_cases hlt : k < n
    · have hlt' : (k : Int) < (n : Int) := by omega
      have hlk : k < s.size := by rw [HM.out]; exact hlt
      have hby := byt_get s k hlk
      by_cases h1 : byt s k < 97
      · have hbad := lets_bad k (by rw [HM.out]; exact hlt) (show ¬ (97 ≤ byt s k ∧ byt s k ≤ 122) by omega)
        rw [← hby] at h1
        clear hby
        go_wp2_with (fail)
        go_ret
        exact ⟨ret_b (by rw [HW.out, hbad]; rfl), hb⟩
      · by_cases h2 : byt s k ≤ 122
        · have hH := As.mk (show 97 ≤ byt s k ∧ byt s k ≤ 122 by omega)
          rw [← hby] at h1 h2
          clear hby
          have h2' : ¬ (122 < ((s[k]'hlk).toNat : Int)) := by omega
          go_wp2_with (fail)
          go_roundw
          case rel => exact ⟨k + 1, by omega, by go_num, ⟨all_succ H.out hH.out⟩, hb⟩
          case measure => simp [intOf]; omega
        · have hbad := lets_bad k (by rw [HM.out]; exact hlt) (show ¬ (97 ≤ byt s k ∧ byt s k ≤ 122) by omega)
          rw [← hby] at h1 h2
          clear hby
          have h2' : 122 < ((s[k]'hlk).toNat : Int) := by omega
          go_wp2_with (fail)
          go_ret
          exact ⟨ret_b (by rw [HW.out, hbad]; rfl), hb⟩
    · obtain rfl : k = n := by omega
      have hgood := lets_good (s := s) (by rw [HM.out]; exact H.out)
      go_wp2_with (go_at_call 14; refine (l00In_any _ _ _ _).mono ?_; rintro e w' ⟨rfl, rfl⟩)
      go_ret
      exact ⟨ret_b (by rw [HW.out, hgood, HM.out]; rfl), hb⟩

set_option maxHeartbeats 1000000 in
theorem l03Spell_any (s : ByteArray) (g : Int) (hg : inR g 1 8 = true) (hw : wordB s = true) (w : World) : Calls Tryd.prog 16 #[.string s, .int .i64 g] w fun e w' => (∃ v, e = .returned v ∧ Own w' w.heap.size 38 v (i8s (spG s g s.size))) ∧ Below w.heap.size w w' := by
  have hl : lets s = true := by unfold wordB at hw; simp only [Bool.and_eq_true] at hw; exact hw.1
  have h8 : s.size ≤ 8 := by unfold wordB at hw; simp only [Bool.and_eq_true, inR_iff] at hw; omega
  have HL := As.mk hl
  have g1 := ((inR_iff _ _ _).1 hg).1
  have g8 := ((inR_iff _ _ _).1 hg).2
  have g0 : (g == 0) = false := by rw [beq_eq_false_iff_ne]; omega
  obtain ⟨n, hm⟩ : ∃ n, s.size = n := ⟨_, rfl⟩
  have HM := As.mk hm
  rw [hm] at h8 ⊢
  clear hl hw hg
  go_enter Tryd.func16, Tryd.ntmps16
  go_wp2
  go_loopw [5, 6] (fun v i wr => ∃ k : Nat, k ≤ n ∧ i = .int .i64 k ∧ Own wr w.heap.size 38 v (i8s (spG s g k)) ∧ Below w.heap.size w wr) (fun _ i _ => n - (intOf i).toNat)
  case atStart => exact ⟨0, by omega, rfl, Own.lit w w.heap.size 38 [] (Nat.le_refl _) (by simp), bl_new (Below.refl _ _) _⟩
  case round =>
    obtain ⟨k, hk, rfl, hO, hb⟩ := hrel
    by_cases hlt : k < n
    · have hlt' : (k : Int) < (n : Int) := by omega
      have hlk : k < s.size := by rw [HM.out]; exact hlt
      have hby := byt_get s k hlk
      have hbd := lets_at HL.out k hlk
      rw [← hby] at hbd
      have b1 := hbd.1
      have b2 := hbd.2
      have hlen := spG_len s g k
      by_cases hs : 0 < k ∧ (k : Int) % g = 0
      · have ht := As.mk (spG_t s g k hs)
        rw [← hby] at ht
        have h1 : (0 : Int) < k := by omega
        have h2 : ((k : Int) % g == 0) = true := by rw [beq_iff_eq]; exact hs.2
        have h3 : Int.tmod (k : Int) g = 0 := by rw [Int.tmod_eq_emod_of_nonneg (by omega)]; exact hs.2
        clear hs hby hbd
        go_wp2_with (at_builtin; refine app1 (w0 := w) (w.heap.size) rfl (.tmp 22) (.tmp 23) 23 38 (.int .i8 0) 1 rfl Tryd.underlying23 info_i8 rfl (by omega) (u5) (i8s (spG s g k)) (.int .i8 (-10)) rfl rfl rfl hO hb hb.size (by rw [i8s_length]; omega) ?_)
        intro v2 w2 hO2 hb2 _ _
        rw [i8s_snoc] at hO2
        go_wp2_with (at_builtin; refine app1 (w0 := w) (w.heap.size) rfl (.tmp 25) (.tmp 31) 23 38 (.int .i8 0) 1 rfl Tryd.underlying23 info_i8 rfl (by omega) (v2) (i8s (spG s g k ++ [-10])) (.int .i8 (((s[k]'hlk).toNat : Int) - 97)) rfl rfl rfl hO2 hb2 hb2.size (by rw [i8s_length, List.length_append]; simp; omega) ?_)
        intro v3 w3 hO3 hb3 _ _
        rw [i8s_snoc] at hO3
        go_wp2_with (fail)
        go_roundw
        case rel => exact ⟨k + 1, by omega, by go_num, by rw [ht.out]; exact hO3, hb3⟩
        case measure => simp [intOf]; omega
      · have ht := As.mk (spG_f s g k hs)
        rw [← hby] at ht
        by_cases h0 : k = 0
        · have h1 : ¬ ((0 : Int) < k) := by omega
          clear hs h0 hby hbd
          go_wp2_with (at_builtin; refine app1 (w0 := w) (w.heap.size) rfl (.tmp 25) (.tmp 31) 23 38 (.int .i8 0) 1 rfl Tryd.underlying23 info_i8 rfl (by omega) (u5) (i8s (spG s g k)) (.int .i8 (((s[k]'hlk).toNat : Int) - 97)) rfl rfl rfl hO hb hb.size (by rw [i8s_length]; omega) ?_)
          intro v3 w3 hO3 hb3 _ _
          rw [i8s_snoc] at hO3
          go_wp2_with (fail)
          go_roundw
          case rel => exact ⟨k + 1, by omega, by go_num, by rw [ht.out]; exact hO3, hb3⟩
          case measure => simp [intOf]; omega
        · have h1 : (0 : Int) < k := by omega
          have h2 : ((k : Int) % g == 0) = false := by rw [beq_eq_false_iff_ne]; omega
          have h3 : (Int.tmod (k : Int) g == 0) = false := by rw [Int.tmod_eq_emod_of_nonneg (by omega)]; exact h2
          clear hs h0 hby hbd
          go_wp2_with (at_builtin; refine app1 (w0 := w) (w.heap.size) rfl (.tmp 25) (.tmp 31) 23 38 (.int .i8 0) 1 rfl Tryd.underlying23 info_i8 rfl (by omega) (u5) (i8s (spG s g k)) (.int .i8 (((s[k]'hlk).toNat : Int) - 97)) rfl rfl rfl hO hb hb.size (by rw [i8s_length]; omega) ?_)
          intro v3 w3 hO3 hb3 _ _
          rw [i8s_snoc] at hO3
          go_wp2_with (fail)
          go_roundw
          case rel => exact ⟨k + 1, by omega, by go_num, by rw [ht.out]; exact hO3, hb3⟩
          case measure => simp [intOf]; omega
    · obtain rfl : k = n := by omega
      go_wp2_with (fail)
      go_ret
      exact ⟨⟨_, rfl, hO⟩, hb⟩

theorem sSpellWord_any (s : ByteArray) (g : Int) (hs : s.size ≤ 1048576) (w : World) : Calls Tryd.prog 5 #[.string s, .int .i64 g] w fun e w' => Gave 38 (i8s (spL s g)) (spC s g) w.heap.size e w' ∧ Below w.heap.size w w' := by
  have key := l03Word_any s hs w
  have HL := show spL s g = if spOk s g && decide ((spG s g s.size).length ≤ 8) then spG s g s.size else [] from rfl
  have HC := show spC s g = if spOk s g then (if decide ((spG s g s.size).length ≤ 8) then 0 else 3) else 2 from rfl
  have hlit : spL s g = [] → ∀ W : World, w.heap.size ≤ W.heap.size → Own (W.alloc (.cells #[] 38)) w.heap.size 38 (.slice (some ⟨W.heap.size, 0, none⟩) 0 0) (i8s (spL s g)) := fun h W hW => by rw [h]; exact Own.lit W w.heap.size 38 [] hW (by simp)
  cases hg : inR g 1 8
  · have ho : spOk s g = false := by unfold spOk; rw [hg]; rfl
    rw [ho] at HL HC
    have hO := hlit HL
    have HC' : spC s g = 2 := HC
    rw [HC']
    clear HL HC HC' hlit
    go_enter Tryd.func5, Tryd.ntmps5
    go_wp2_with (go_at_call 14; refine (l00In_any _ _ _ _).mono ?_; rintro e w' ⟨rfl, rfl⟩)
    go_ret2
    exact ⟨⟨_, rfl, hO w (Nat.le_refl _)⟩, bl_new (Below.refl _ _) _⟩
  · cases hw : wordB s
    · have ho : spOk s g = false := by unfold spOk; rw [hg, hw]; rfl
      rw [ho] at HL HC
      have hO := hlit HL
      have HC' : spC s g = 2 := HC
      rw [HC']
      rw [hw] at key
      clear HL HC HC' hlit
      go_enter Tryd.func5, Tryd.ntmps5
      go_wp2_with (first | (go_at_call 14; refine (l00In_any _ _ _ _).mono ?_; rintro e w' ⟨rfl, rfl⟩) | (go_at_call 15; refine (key).mono ?_; rintro e w1 ⟨rfl, hb⟩))
      go_ret2
      exact ⟨⟨_, rfl, hO _ hb.size⟩, bl_new hb _⟩
    · have ho : spOk s g = true := by unfold spOk; rw [hg, hw]; rfl
      have key2 := fun W => l03Spell_any s g hg hw W
      rw [ho] at HL HC
      rw [hw] at key
      by_cases h8 : (spG s g s.size).length ≤ 8
      · have h8' : ¬ (8 < ((spG s g s.size).length : Int)) := by omega
        rw [decide_eq_true h8] at HL HC
        have HC' : spC s g = 0 := HC
        have HL' : spL s g = spG s g s.size := HL
        rw [HC', HL']
        clear HL HC HC' HL' hlit
        obtain ⟨ys, hys⟩ : ∃ ys, spG s g s.size = ys := ⟨_, rfl⟩
        rw [hys] at key2 h8' ⊢
        clear hys h8
        go_enter Tryd.func5, Tryd.ntmps5
        go_wp2_with (first | (go_at_call 14; refine (l00In_any _ _ _ _).mono ?_; rintro e w' ⟨rfl, rfl⟩) | (go_at_call 15; refine (key).mono ?_; rintro e w1 ⟨rfl, hb⟩))
        refine (key2 _).mono ?_; rintro e w2 ⟨⟨v, rfl, hO⟩, hb2⟩
        obtain ⟨A, c, rfl, S⟩ := hO.sl
        go_wp2_with (fail)
        go_ret2
        exact ⟨⟨_, rfl, hO.lower hb.size⟩, bl_call hb hb2⟩
      · have h8' : 8 < ((spG s g s.size).length : Int) := by omega
        rw [decide_eq_false h8] at HL HC
        have HC' : spC s g = 3 := HC
        have hOl := hlit HL
        rw [HC']
        clear HL HC HC' hlit
        obtain ⟨ys, hys⟩ : ∃ ys, spG s g s.size = ys := ⟨_, rfl⟩
        rw [hys] at key2 h8'
        clear hys h8
        go_enter Tryd.func5, Tryd.ntmps5
        go_wp2_with (first | (go_at_call 14; refine (l00In_any _ _ _ _).mono ?_; rintro e w' ⟨rfl, rfl⟩) | (go_at_call 15; refine (key).mono ?_; rintro e w1 ⟨rfl, hb⟩))
        refine (key2 _).mono ?_; rintro e w2 ⟨⟨v, rfl, hO⟩, hb2⟩
        obtain ⟨A, c, rfl, S⟩ := hO.sl
        go_wp2_with (fail)
        go_ret2
        exact ⟨⟨_, rfl, hOl w2 (bl_call hb hb2).size⟩, bl_new (bl_call hb hb2) _⟩

set_option maxRecDepth 100000 in
set_option maxHeartbeats 2000000 in
theorem SpellWord_any (s : ByteArray) (g : Int) (hs : s.size ≤ 1048576) (w : World) : Calls Tryd.prog 6 #[.string s, .int .i64 g] w fun e w' => Gave 38 (i8s (spL s g)) (spC s g) w.heap.size e w' ∧ Below w.heap.size w w' := by
  have HL := show spL s g = if spOk s g && decide ((spG s g s.size).length ≤ 8) then spG s g s.size else [] from rfl
  have HC := show spC s g = if spOk s g then (if decide ((spG s g s.size).length ≤ 8) then 0 else 3) else 2 from rfl
  have hnil : spL s g = [] → ∀ W : World, Own W w.heap.size 38 (.slice none 0 0) (i8s (spL s g)) := fun h W => by rw [h]; exact Own.nil _ _ _
  have ktr := fun W => sh_Trim s abc W (by omega) (by decide) (fun j b hb => by
    have hall : (abc.data.toList.all fun b => decide (b.toNat < 128)) = true := by decide
    rw [List.all_eq_true] at hall
    simpa using hall b (List.mem_of_getElem? hb))
  unfold abc at ktr
  cases hg : inR g 1 8
  · have ho : spOk s g = false := by unfold spOk; rw [hg]; rfl
    rw [ho] at HL HC
    have hO := hnil HL
    have HC' : spC s g = 2 := HC
    rw [HC']
    clear HL HC HC' hnil ktr
    go_enter Tryd.func6, Tryd.ntmps6
    go_wp2_with (go_at_call 17; refine (within_any _ _ _ _).mono ?_; rintro e w' ⟨rfl, rfl⟩)
    go_ret2
    exact ⟨⟨_, rfl, hO w⟩, Below.refl _ _⟩
  · cases hz : inR (s.size : Int) 1 8
    · have ho : spOk s g = false := by unfold spOk wordB; rw [hg, hz]; simp
      rw [ho] at HL HC
      have hO := hnil HL
      have HC' : spC s g = 2 := HC
      rw [HC']
      clear HL HC HC' hnil ktr
      go_enter Tryd.func6, Tryd.ntmps6
      go_wp2_with (go_at_call 17; refine (within_any _ _ _ _).mono ?_; rintro e w' ⟨rfl, rfl⟩)
      go_ret2
      exact ⟨⟨_, rfl, hO w⟩, Below.refl _ _⟩
    · cases hl : lets s
      · have ho : spOk s g = false := by unfold spOk wordB; rw [hg, hl]; simp
        rw [ho] at HL HC
        have hO := hnil HL
        have HC' : spC s g = 2 := HC
        rw [HC']
        have hne : Lib.trimS s.data.toList abc.data.toList ≠ [] := fun h => by rw [(trim_lets s).1 h] at hl; cases hl
        unfold abc at hne
        generalize Lib.trimS s.data.toList _ = t at *
        have hne2 : t.isEmpty = false := by cases t <;> simp_all
        clear HL HC HC' hnil hl hne
        go_enter Tryd.func6, Tryd.ntmps6
        go_wp2_with (first | (go_at_call 17; refine (within_any _ _ _ _).mono ?_; rintro e w' ⟨rfl, rfl⟩) | (go_at_call 18; refine (ktr _).mono ?_; rintro e w1 ⟨rfl, hb⟩))
        go_ret2
        exact ⟨⟨_, rfl, hO _⟩, hb⟩
      · have hw : wordB s = true := by unfold wordB; rw [hz, hl]; rfl
        have ho : spOk s g = true := by unfold spOk; rw [hg, hw]; rfl
        rw [ho] at HL HC
        have ht0 := (trim_lets s).2 hl
        unfold abc at ht0
        rw [show (⟨#[97, 98, 99, 100, 101, 102, 103, 104, 105, 106, 107, 108, 109, 110, 111, 112, 113, 114, 115, 116, 117, 118, 119, 120, 121, 122]⟩ : ByteArray).data.toList = [97, 98, 99, 100, 101, 102, 103, 104, 105, 106, 107, 108, 109, 110, 111, 112, 113, 114, 115, 116, 117, 118, 119, 120, 121, 122] from rfl] at ktr ht0
        rw [ht0] at ktr
        have ktr := fun W => (show Calls Tryd.prog 18 #[.string s, .string ⟨#[97, 98, 99, 100, 101, 102, 103, 104, 105, 106, 107, 108, 109, 110, 111, 112, 113, 114, 115, 116, 117, 118, 119, 120, 121, 122]⟩] W fun e w' => e = .returned (.string ⟨#[]⟩) ∧ Below W.heap.size W w' from ktr W)
        have h8 : s.size ≤ 8 := by have := (inR_iff _ _ _).1 hz; omega
        have HLt := As.mk hl
        have g1 := ((inR_iff _ _ _).1 hg).1
        have g8 := ((inR_iff _ _ _).1 hg).2
        have g0 : (g == 0) = false := by rw [beq_eq_false_iff_ne]; omega
        have HL' := As.mk HL
        have HC' := As.mk HC
        have hnil' := As.mk hnil
        obtain ⟨n, hm⟩ : ∃ n, s.size = n := ⟨_, rfl⟩
        have HM := As.mk hm
        rw [hm] at h8 hz
        clear hl hw ho ht0 HL HC hnil
        go_enter Tryd.func6, Tryd.ntmps6
        go_wp2_with (first | (go_at_call 17; refine (within_any _ _ _ _).mono ?_; rintro e w' ⟨rfl, rfl⟩) | (go_at_call 18; refine (ktr _).mono ?_; rintro e w1 ⟨rfl, hb1⟩))
        go_loopw [6, 25] (fun v i wr => ∃ k : Nat, k ≤ n ∧ i = .int .i64 k ∧ Own wr w1.heap.size 38 v (i8s (spG s g k)) ∧ Below w1.heap.size w1 wr) (fun _ i _ => n - (intOf i).toNat)
        case atStart => exact ⟨0, by omega, rfl, Own.lit w1 w1.heap.size 38 [] (Nat.le_refl _) (by simp), bl_new (Below.refl _ _) _⟩
        case round =>
          obtain ⟨k, hk, rfl, hO, hb⟩ := hrel
          clear ktr
          by_cases hlt : k < n
          · have hlt' : (k : Int) < (n : Int) := by omega
            have hlk : k < s.size := by rw [HM.out]; exact hlt
            have hby := byt_get s k hlk
            have hbd := lets_at HLt.out k hlk
            rw [← hby] at hbd
            have b1 := hbd.1
            have b2 := hbd.2
            have hlen := spG_len s g k
            by_cases hs : 0 < k ∧ (k : Int) % g = 0
            · have ht := As.mk (spG_t s g k hs)
              rw [← hby] at ht
              have h1 : (0 : Int) < k := by omega
              have h2 : ((k : Int) % g == 0) = true := by rw [beq_iff_eq]; exact hs.2
              have h3 : Int.tmod (k : Int) g = 0 := by rw [Int.tmod_eq_emod_of_nonneg (by omega)]; exact hs.2
              clear hs hby hbd
              go_wp2_with (at_builtin; refine app1 (w0 := w1) (w1.heap.size) rfl (.tmp 36) (.tmp 37) 23 38 (.int .i8 0) 1 rfl Tryd.underlying23 info_i8 rfl (by omega) (u6) (i8s (spG s g k)) (.int .i8 (-10)) rfl rfl rfl hO hb hb.size (by rw [i8s_length]; omega) ?_)
              intro v2 w2 hO2 hb2 _ _
              rw [i8s_snoc] at hO2
              go_wp2_with (at_builtin; refine app1 (w0 := w1) (w1.heap.size) rfl (.tmp 39) (.tmp 45) 23 38 (.int .i8 0) 1 rfl Tryd.underlying23 info_i8 rfl (by omega) (v2) (i8s (spG s g k ++ [-10])) (.int .i8 (((s[k]'hlk).toNat : Int) - 97)) rfl rfl rfl hO2 hb2 hb2.size (by rw [i8s_length, List.length_append]; simp; omega) ?_)
              intro v3 w3 hO3 hb3 _ _
              rw [i8s_snoc] at hO3
              go_wp2_with (fail)
              go_roundw
              case rel => exact ⟨k + 1, by omega, by go_num, by rw [ht.out]; exact hO3, hb3⟩
              case measure => simp [intOf]; omega
            · have ht := As.mk (spG_f s g k hs)
              rw [← hby] at ht
              by_cases h0 : k = 0
              · have h1 : ¬ ((0 : Int) < k) := by omega
                clear hs h0 hby hbd
                go_wp2_with (at_builtin; refine app1 (w0 := w1) (w1.heap.size) rfl (.tmp 39) (.tmp 45) 23 38 (.int .i8 0) 1 rfl Tryd.underlying23 info_i8 rfl (by omega) (u6) (i8s (spG s g k)) (.int .i8 (((s[k]'hlk).toNat : Int) - 97)) rfl rfl rfl hO hb hb.size (by rw [i8s_length]; omega) ?_)
                intro v3 w3 hO3 hb3 _ _
                rw [i8s_snoc] at hO3
                go_wp2_with (fail)
                go_roundw
                case rel => exact ⟨k + 1, by omega, by go_num, by rw [ht.out]; exact hO3, hb3⟩
                case measure => simp [intOf]; omega
              · have h1 : (0 : Int) < k := by omega
                have h2 : ((k : Int) % g == 0) = false := by rw [beq_eq_false_iff_ne]; omega
                have h3 : (Int.tmod (k : Int) g == 0) = false := by rw [Int.tmod_eq_emod_of_nonneg (by omega)]; exact h2
                clear hs h0 hby hbd
                go_wp2_with (at_builtin; refine app1 (w0 := w1) (w1.heap.size) rfl (.tmp 39) (.tmp 45) 23 38 (.int .i8 0) 1 rfl Tryd.underlying23 info_i8 rfl (by omega) (u6) (i8s (spG s g k)) (.int .i8 (((s[k]'hlk).toNat : Int) - 97)) rfl rfl rfl hO hb hb.size (by rw [i8s_length]; omega) ?_)
                intro v3 w3 hO3 hb3 _ _
                rw [i8s_snoc] at hO3
                go_wp2_with (fail)
                go_roundw
                case rel => exact ⟨k + 1, by omega, by go_num, by rw [ht.out]; exact hO3, hb3⟩
                case measure => simp [intOf]; omega
          · obtain rfl : k = n := by omega
            obtain ⟨A, c, rfl, S⟩ := hO.sl
            by_cases hle : (spG s g k).length ≤ 8
            · have hle' : ¬ (8 < ((spG s g k).length : Int)) := by omega
              have e1 := HL'.out
              have e2 := HC'.out
              rw [HM.out, decide_eq_true hle] at e1 e2
              have E1 := As.mk (show spL s g = spG s g k from e1)
              have E2 := As.mk (show spC s g = 0 from e2)
              clear e1 e2 hle
              go_wp2_with (fail)
              go_ret2
              rw [E2.out]
              exact ⟨⟨_, rfl, by rw [E1.out]; exact hO.lower hb1.size⟩, bl_call hb1 hb⟩
            · have hle' : 8 < ((spG s g k).length : Int) := by omega
              have e1 := HL'.out
              have e2 := HC'.out
              rw [HM.out, decide_eq_false hle] at e1 e2
              have E1 := As.mk (show spL s g = [] from e1)
              have E2 := As.mk (show spC s g = 3 from e2)
              clear e1 e2 hle
              go_wp2_with (fail)
              go_ret2
              rw [E2.out]
              exact ⟨⟨_, rfl, hnil'.out E1.out _⟩, bl_call hb1 hb⟩
end Go.Proofs.YtllplgjlpndpfaaDoor
