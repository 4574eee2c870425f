/- Contracts and plain facts, several texts in one. -/
import Derived.Test.YtjppoejkfpeicaaQC1
import Derived.Test.YtjppoejkfpeicaaQC3
import Derived.Deep.MidRow
import Derived.Deep.OwnRows
import Derived.Maps.AppendAt
import Derived.OwnWalk
/- Contracts: slices.IndexFunc and ContainsFunc over flags; the code of a set of flags, both sides. -/
set_option linter.unusedVariables false
set_option linter.unusedSimpArgs false
namespace Go.Proofs.Ytjppoejkfpeicaa
open Go.RowKit

/-- Flag k of a list. -/
def nthF (fs : List (List Int)) (k : Nat) : List Int := fs.getD k []
theorem nthF_get? (fs : List (List Int)) (k : Nat) (h : k < fs.length) : fs[k]? = some (nthF fs k) := by simp [nthF, List.getElem?_eq_getElem h]
theorem nthF_mem (fs : List (List Int)) (k : Nat) (h : k < fs.length) : nthF fs k ∈ fs := List.mem_of_getElem? (nthF_get? fs k h)
theorem SlF.len {w : World} {A : Option Addr} {fs : List (List Int)} (h : SlF w A fs) (k : Nat) (hk : k < fs.length) : (nthF fs k).length = 24 := h.2.1 _ (nthF_mem fs k hk)
theorem SlF.bytes {w : World} {A : Option Addr} {fs : List (List Int)} (h : SlF w A fs) (k : Nat) (hk : k < fs.length) : Bytes (nthF fs k) := h.2.2.1 _ (nthF_mem fs k hk)
theorem info_len {f : List Int} (h : f.length = 24) : (Try.prog.info? 38).map (·.size) = some (u8s f).length := by rw [u8s_length, h]; exact info_fl

set_option maxHeartbeats 400000 in
theorem IndexFunc_fl (g : Nat) (lb : Array Value) (eg : ∀ args w, (callFunc g args).run Try.prog w = .ok (.enter g args) w) (fs : List (List Int)) (p : Nat → Bool) (A : Option Addr) (c : Nat) (w : World)
    (hp : Pred g lb (fun k => fl (nthF fs k)) fs.length p w) (hs : SlF w A fs) :
    Calls Try.prog 97 #[.slice A fs.length c, .func (.func g) #[] lb] w fun e w' => e = .returned (.int .i64 (firstIdx p fs.length 0)) ∧ Below w.heap.size w w' := by
  have hbig := hs.1
  generalize hn : fs.length = n at *
  have HN := As.mk hn
  clear hn
  go_enter Try.func97, Try.ntmps97
  go_wp2
  go_loopw [5, 8] (fun _ i wr => ∃ k : Nat, k ≤ n ∧ i = .int .i64 k ∧ Below w.heap.size w wr ∧ As (∀ j, j < k → p j = false)) (fun _ i _ => n - (intOf i).toNat)
  case atStart => exact ⟨0, by omega, rfl, Below.refl _ _, ⟨fun j hj => by omega⟩⟩
  case round =>
    obtain ⟨k, hk, rfl, hb, H⟩ := hrel
    by_cases hlt : k < n
    · have hlt' : (k : Int) < (n : Int) := by omega
      obtain ⟨b, o, rfl, hr⟩ := (hs.kept hb).2.2.2 (by rw [HN.out]; omega)
      have R := hr k _ (nthF_get? fs k (by rw [HN.out]; exact hlt))
      have hi := info_len (hs.len k (by rw [HN.out]; exact hlt))
      have hcall := hp wr k hlt hb
      cases hq : p k with
      | true =>
        rw [hq] at hcall
        unfold fl at hcall
        go_wp2_with (first | (refine wpList_load_mid rfl 38 _ rfl _ _ rfl _ _ R Try.underlying38 rfl hi ?_) | (refine hcall.mono ?_; rintro e w' ⟨rfl, hb'⟩))
        go_ret
        exact ⟨ret_n (by rw [firstIdx_hit p n 0 k hlt (by simpa using H.out) (by simpa using hq)]; simp), bl_call hb hb'⟩
      | false =>
        rw [hq] at hcall
        unfold fl at hcall
        go_wp2_with (first | (refine wpList_load_mid rfl 38 _ rfl _ _ rfl _ _ R Try.underlying38 rfl hi ?_) | (refine hcall.mono ?_; rintro e w' ⟨rfl, hb'⟩))
        go_roundw
        case rel => exact ⟨k + 1, by omega, by go_num, bl_call hb hb', ⟨all_succ H.out hq⟩⟩
        case measure => simp [intOf]; omega
    · obtain rfl : k = n := by omega
      go_wp2
      go_ret
      exact ⟨ret_n (by rw [firstIdx_miss p k 0 (by simpa using H.out)]), hb⟩

theorem ContainsFunc_fl (g : Nat) (lb : Array Value) (eg : ∀ args w, (callFunc g args).run Try.prog w = .ok (.enter g args) w) (fs : List (List Int)) (p : Nat → Bool) (A : Option Addr) (c : Nat) (w : World)
    (hp : Pred g lb (fun k => fl (nthF fs k)) fs.length p w) (hs : SlF w A fs) :
    Calls Try.prog 81 #[.slice A fs.length c, .func (.func g) #[] lb] w fun e w' => e = .returned (.bool (anyBelow p fs.length)) ∧ Below w.heap.size w w' := by
  rw [← firstIdx_nonneg]
  go_enter Try.func81, Try.ntmps81
  go_wp2_with (fail)
  refine (IndexFunc_fl g lb eg fs p A c _ hp hs).mono ?_; rintro e w1 ⟨rfl, hb⟩
  go_wp2_with (fail)
  go_ret
  exact ⟨rfl, hb⟩

/-- All flags are valid. -/
def vfs (fs : List (List Int)) : Bool := fs.all vf
theorem any_vfs (fs : List (List Int)) : (anyBelow (fun k => !vf (nthF fs k)) fs.length) = !vfs fs := by
  unfold anyBelow vfs
  cases h : fs.all vf
  · rw [List.all_eq_false] at h
    obtain ⟨f, hf, hv⟩ := h
    obtain ⟨i, hi, rfl⟩ := List.mem_iff_getElem.1 hf
    simp only [Bool.not_false, List.any_eq_true]
    refine ⟨i, List.mem_range.2 hi, ?_⟩
    simp only [nthF, List.getD_eq_getElem?_getD, List.getElem?_eq_getElem hi, Option.getD_some]
    simpa using hv
  · rw [List.all_eq_true] at h
    simp only [Bool.not_true, List.any_eq_false]
    intro i hi
    rw [List.mem_range] at hi
    have := h _ (nthF_mem fs i hi)
    simp [this]
theorem vfs_at {fs : List (List Int)} (h : vfs fs = true) (k : Nat) (hk : k < fs.length) : vf (nthF fs k) = true := by
  unfold vfs at h; rw [List.all_eq_true] at h
  exact h _ (nthF_mem fs k hk)

theorem setCode1_any (f : List Int) (hf : f.length = 24) (w : World) : Calls Try.prog 82 #[fl f] w fun e w' => e = .returned (.bool (!vf f)) ∧ Below w.heap.size w w' := by
  unfold fl
  have B0 := Blk.new w (u8s f) 38
  have b0 := bl_new (Below.refl _ w) (.cells (u8s f).toArray 38)
  go_enter Try.func82, Try.ntmps82
  go_wp2_with (refine load_blk rfl 38 _ rfl _ rfl B0 Try.underlying38 rfl info_fl (by rw [u8s_length]; exact hf) ?_)
  refine (ValidFlag_any f hf _).mono ?_; rintro e w1 ⟨rfl, hb1⟩
  go_wp2_with (fail)
  go_ret
  exact ⟨rfl, bl_call b0 hb1⟩

/-- The code of a set of flags. -/
def setC (fs : List (List Int)) : Int := if vfs fs then (if 40 < fs.length then 3 else 0) else 1
/-- The code of a set of flags and a least distance. -/
def askC (fs : List (List Int)) (n : Int) : Int := if setC fs = 0 then (if inR n 0 6 then 0 else 2) else setC fs

set_option maxHeartbeats 800000 in
theorem setCode_any (fs : List (List Int)) (A : Option Addr) (c : Nat) (n : Int) (w : World) (hs : SlF w A fs) :
    Calls Try.prog 45 #[.slice A fs.length c, .int .i64 n] w fun e w' => e = .returned (.int .i64 (askC fs n)) ∧ Below w.heap.size w w' := by
  have key := ContainsFunc_fl 82 #[] (enters Try.func82 (by kernel_rfl) rfl) fs (fun k => !vf (nthF fs k)) A c w (fun W k hk _ => setCode1_any _ (hs.len k hk) W) hs
  rw [any_vfs] at key
  have hbig := hs.1
  cases h1 : vfs fs
  · have hC : askC fs n = 1 := by simp [askC, setC, h1]
    rw [hC]
    clear hC
    rw [h1, Bool.not_false] at key
    go_enter Try.func45, Try.ntmps45
    go_wp2_with (fail)
    refine (key).mono ?_; rintro e w1 ⟨rfl, hb1⟩
    go_wp2_with (fail)
    go_ret
    exact ⟨rfl, hb1⟩
  · rw [h1, Bool.not_true] at key
    by_cases h2 : 40 < fs.length
    · have hC : askC fs n = 3 := by simp [askC, setC, h1, h2]
      rw [hC]
      clear hC
      have h2' : (40 : Int) < (fs.length : Int) := by omega
      go_enter Try.func45, Try.ntmps45
      go_wp2_with (fail)
      refine (key).mono ?_; rintro e w1 ⟨rfl, hb1⟩
      go_wp2_with (fail)
      go_ret
      exact ⟨rfl, hb1⟩
    · have hC : askC fs n = if inR n 0 6 then 0 else 2 := by simp [askC, setC, h1, h2]
      rw [hC]
      clear hC
      have h2' : (fs.length : Int) ≤ 40 := by omega
      cases h3 : inR n 0 6
      all_goals
        go_enter Try.func45, Try.ntmps45
        go_wp2_with (fail)
        refine (key).mono ?_; rintro e w1 ⟨rfl, hb1⟩
        go_wp2_with (first | (go_at_call 63; refine (within_any _ _ _ _).mono ?_; rintro e w' ⟨rfl, rfl⟩) | (go_at_call 52; refine (unless_any _ _ _).mono ?_; rintro e w' ⟨rfl, rfl⟩))
        go_ret
        exact ⟨rfl, hb1⟩

set_option maxHeartbeats 800000 in
theorem l01Set_any (fs : List (List Int)) (A : Option Addr) (c : Nat) (w : World) (hs : SlF w A fs) :
    Calls Try.prog 79 #[.slice A fs.length c] w fun e w' => e = .returned (.int .i64 (setC fs)) ∧ w = w' := by
  have hbig := hs.1
  have hC := As.mk (show setC fs = if vfs fs then (if 40 < fs.length then 3 else 0) else 1 from rfl)
  have hv := @vfs_at fs
  generalize hn : fs.length = n at *
  have HN := As.mk hn
  clear hn
  go_enter Try.func79, Try.ntmps79
  go_wp2
  go_loop [3] (fun i => ∃ k : Nat, k ≤ n ∧ i = .int .i64 k ∧ As (∀ j, j < k → vf (nthF fs j) = true)) (fun i => n - (intOf i).toNat)
  case atStart => exact ⟨0, by omega, rfl, ⟨fun j hj => by omega⟩⟩
  case round =>
    obtain ⟨k, hk, rfl, H⟩ := hrel
    by_cases hlt : k < n
    · have hlt' : (k : Int) < (n : Int) := by omega
      obtain ⟨b, o, rfl, hr⟩ := hs.2.2.2 (by rw [HN.out]; omega)
      have R := hr k _ (nthF_get? fs k (by rw [HN.out]; exact hlt))
      have hk24 := hs.len k (by rw [HN.out]; exact hlt)
      cases hq : vf (nthF fs k)
      · have hb : vfs fs = false := by
          cases h : vfs fs with
          | false => rfl
          | true => have := hv h k hlt; rw [hq] at this; cases this
        go_wp2_with (go_at_call 95; refine (l01Ok_any _ hk24 _ _ _ R).mono ?_; rintro e w' ⟨rfl, rfl⟩)
        go_ret
        exact ⟨ret_n (by rw [hC.out, hb]; rfl), rfl⟩
      · go_wp2_with (go_at_call 95; refine (l01Ok_any _ hk24 _ _ _ R).mono ?_; rintro e w' ⟨rfl, rfl⟩)
        go_round
        case rel => exact ⟨k + 1, by omega, by go_num, ⟨all_succ H.out hq⟩⟩
        case measure => simp [intOf]; omega
    · obtain rfl : k = n := by omega
      have hb : vfs fs = true := by
        unfold vfs; rw [List.all_eq_true]
        intro f hf
        obtain ⟨i, hi, rfl⟩ := List.mem_iff_getElem.1 hf
        have := H.out i (by rw [← HN.out]; exact hi)
        simpa [nthF, List.getElem?_eq_getElem hi] using this
      by_cases h2 : 40 < k
      · have h2' : (40 : Int) < (k : Int) := by omega
        go_wp2
        go_ret
        exact ⟨ret_n (by rw [hC.out, hb, if_pos rfl, if_pos h2]), rfl⟩
      · have h2' : (k : Int) ≤ 40 := by omega
        go_wp2
        go_ret
        exact ⟨ret_n (by rw [hC.out, hb, if_pos rfl, if_neg h2]), rfl⟩

theorem l01Asked_any (fs : List (List Int)) (A : Option Addr) (c : Nat) (n : Int) (w : World) (hs : SlF w A fs) :
    Calls Try.prog 42 #[.slice A fs.length c, .int .i64 n] w fun e w' => e = .returned (.int .i64 (askC fs n)) ∧ w = w' := by
  have key := fun W h => l01Set_any fs A c W h
  have hC : askC fs n = if setC fs = 0 then (if inR n 0 6 then 0 else 2) else setC fs := rfl
  rw [hC]
  generalize setC fs = sc at *
  clear hC
  by_cases h0 : sc = 0
  · subst h0
    cases h1 : inR n 0 6
    all_goals
      go_enter Try.func42, Try.ntmps42
      go_wp2_with (first | (go_at_call 79; refine (key _ hs).mono ?_; rintro e w' ⟨rfl, rfl⟩) | (go_at_call 66; refine (l00In_any _ _ _ _).mono ?_; rintro e w' ⟨rfl, rfl⟩))
      go_ret
      exact ⟨rfl, rfl⟩
  · have h0' : (sc == 0) = false := by simp [h0]
    rw [if_neg h0]
    go_enter Try.func42, Try.ntmps42
    go_wp2_with (first | (go_at_call 79; refine (key _ hs).mono ?_; rintro e w' ⟨rfl, rfl⟩) | (go_at_call 66; refine (l00In_any _ _ _ _).mono ?_; rintro e w' ⟨rfl, rfl⟩))
    go_ret
    exact ⟨rfl, rfl⟩
end Go.Proofs.Ytjppoejkfpeicaa

/- Contracts: impl.nearest over any closure. -/
set_option linter.unusedVariables false
set_option linter.unusedSimpArgs false
namespace Go.Proofs.Ytjppoejkfpeicaa
open Go.RowKit

theorem results_tmp4 {fn : Func} {t u v x : Tmp} (h : fn.results = #[.tmp t, .tmp u, .tmp v, .tmp x]) (tmps : Array Value) (P : Program) (w : World) :
    (results fn tmps).run P w = .ok (.tuple #[tmps.getD t undef, tmps.getD u undef, tmps.getD v undef, tmps.getD x undef]) w := by
  simp [results, h]

/-- One pair is looked at. -/
def stepN (d : Nat → Nat → Int) (i k : Nat) (s : Int × Int × Int) : Int × Int × Int := if s.2.2 < 0 ∨ d i k < s.2.2 then ((i : Int), (k : Int), d i k) else s
/-- The first j pairs of row i. -/
def rowN (d : Nat → Nat → Int) (i : Nat) : Nat → Int × Int × Int → Int × Int × Int
  | 0, s => s
  | j + 1, s => stepN d i (i + 1 + j) (rowN d i j s)
/-- The first i rows, from s0. -/
def allN (d : Nat → Nat → Int) (n : Nat) (s0 : Int × Int × Int) : Nat → Int × Int × Int
  | 0 => s0
  | i + 1 => rowN d i (n - (i + 1)) (allN d n s0 i)
def none3 : Int × Int × Int := (0, 0, -1)

set_option maxHeartbeats 1000000 in
theorem nearest_any (g : Nat) (lb : Array Value) (eg : ∀ args w, (callFunc g args).run Try.prog w = .ok (.enter g args) w) (n : Nat) (hn : n ≤ 1000000) (d : Nat → Nat → Int) (w : World)
    (hp : ∀ (W : World) (i k : Nat), i < k → k < n → Below w.heap.size w W → Calls Try.prog g (#[.int .i64 (i : Int), .int .i64 (k : Int)] ++ lb) W fun e w' => e = .returned (.int .i64 (d i k)) ∧ Below W.heap.size W w') :
    Calls Try.prog 75 #[.int .i64 n, .func (.func g) #[] lb] w fun e w' =>
      e = .returned (.tuple #[.int .i64 (allN d n none3 n).1, .int .i64 (allN d n none3 n).2.1, .int .i64 (allN d n none3 n).2.2, .bool (decide (0 ≤ (allN d n none3 n).2.2))]) ∧ Below w.heap.size w w' := by
  go_enter Try.func75, Try.ntmps75
  go_wp2
  go_loopw [8, 9, 10, 15] (fun va vb vl vi wr => ∃ i : Nat, i ≤ n ∧ vi = .int .i64 i ∧ va = .int .i64 (allN d n none3 i).1 ∧ vb = .int .i64 (allN d n none3 i).2.1 ∧ vl = .int .i64 (allN d n none3 i).2.2 ∧ Below w.heap.size w wr) (fun _ _ _ vi _ => n - (intOf vi).toNat)
  case atStart => exact ⟨0, by omega, rfl, rfl, rfl, rfl, Below.refl _ _⟩
  case round =>
    obtain ⟨i, hi, rfl, rfl, rfl, rfl, hb⟩ := hrel
    by_cases hlt : i < n
    · have hlt' : (i : Int) < (n : Int) := by omega
      have hS := As.mk (show allN d n none3 (i + 1) = rowN d i (n - (i + 1)) (allN d n none3 i) from rfl)
      generalize allN d n none3 i = s0 at *
      go_wp2
      go_loopw [8, 9, 10, 12] (fun va vb vl vk wr => ∃ j : Nat, i + 1 + j ≤ n ∧ vk = .int .i64 ((i + 1 + j : Nat) : Int) ∧ va = .int .i64 (rowN d i j s0).1 ∧ vb = .int .i64 (rowN d i j s0).2.1 ∧ vl = .int .i64 (rowN d i j s0).2.2 ∧ Below w.heap.size w wr) (fun _ _ _ vk _ => n - (intOf vk).toNat)
      case atStart => exact ⟨0, by omega, by simp, rfl, rfl, rfl, hb⟩
      case round =>
        obtain ⟨j, hj, rfl, rfl, rfl, rfl, hb⟩ := hrel
        have hR := As.mk (show rowN d i (j + 1) s0 = stepN d i (i + 1 + j) (rowN d i j s0) from rfl)
        by_cases hlt2 : i + 1 + j < n
        · have hlt2' : ((i + 1 + j : Nat) : Int) < (n : Int) := by omega
          have hcall := hp wr i (i + 1 + j) (by omega) hlt2 hb
          have hT := As.mk (show stepN d i (i + 1 + j) (rowN d i j s0) = if (rowN d i j s0).2.2 < 0 ∨ d i (i + 1 + j) < (rowN d i j s0).2.2 then ((i : Int), ((i + 1 + j : Nat) : Int), d i (i + 1 + j)) else rowN d i j s0 from rfl)
          have hk1 : ((i + 1 + j : Nat) : Int) + 1 = ((i + 1 + (j + 1) : Nat) : Int) := by omega
          generalize hk : i + 1 + j = k at *
          generalize d i k = dk at *
          generalize rowN d i j s0 = s at *
          go_wp2_with (fail)
          refine hcall.mono ?_; rintro e w1 ⟨rfl, hb1⟩
          have hb2 := bl_call hb hb1
          clear hcall hp hb1
          by_cases ht : s.2.2 < 0 ∨ dk < s.2.2
          · have hN : rowN d i (j + 1) s0 = ((i : Int), ((k : Nat) : Int), dk) := by rw [hR.out, hT.out, if_pos ht]
            by_cases h0 : s.2.2 < 0
            · go_wp2
              go_roundw
              case rel => exact ⟨j + 1, by omega, congrArg (Value.int IntKind.i64) (by omega), by rw [hN], by rw [hN], by rw [hN], hb2⟩
              case measure => simp [intOf]; omega
            · have h1 : dk < s.2.2 := by rcases ht with h | h; exact absurd h h0; exact h
              go_wp2
              go_roundw
              case rel => exact ⟨j + 1, by omega, congrArg (Value.int IntKind.i64) (by omega), by rw [hN], by rw [hN], by rw [hN], hb2⟩
              case measure => simp [intOf]; omega
          · have hN : rowN d i (j + 1) s0 = s := by rw [hR.out, hT.out, if_neg ht]
            have h0 : ¬ s.2.2 < 0 := fun h => ht (.inl h)
            have h1 : ¬ dk < s.2.2 := fun h => ht (.inr h)
            go_wp2
            go_roundw
            case rel => exact ⟨j + 1, by omega, congrArg (Value.int IntKind.i64) (by omega), by rw [hN], by rw [hN], by rw [hN], hb2⟩
            case measure => simp [intOf]; omega
        · have hj' : j = n - (i + 1) := by omega
          subst hj'
          rw [← hS.out]
          have e1 : ¬ ((i + 1 + (n - (i + 1)) : Nat) : Int) < (n : Int) := by omega
          go_wp2
          go_roundw
          case rel => exact ⟨i + 1, by omega, by go_num, rfl, rfl, rfl, hb⟩
          case measure => simp [intOf]; omega
    · obtain rfl : i = n := by omega
      go_wp2
      refine bodyPost_ret (results_tmp4 rfl _ _ _) rfl ?_
      exact ⟨rfl, hb⟩
end Go.Proofs.Ytjppoejkfpeicaa

/- Contracts: the distance of two flags of a set, as impl.nearest asks for it. -/
set_option linter.unusedVariables false
set_option linter.unusedSimpArgs false
namespace Go.Proofs.Ytjppoejkfpeicaa
open Go.RowKit

/-- In how many blocks two flags of a set differ from afar. -/
def farP (fs : List (List Int)) (i k : Nat) : Int := farD (nthF fs i) (nthF fs k)
theorem keepP {w W W' : World} {a : Addr} {v : Value} {b1 o1 b2 o2 : Nat} {c1 c2 : List Value} (h : Below w.heap.size w W ∧ W.cell? a = some v ∧ W.rangeAt b1 o1 c1 ∧ W.rangeAt b2 o2 c2) (hb : Below W.heap.size W W') :
    Below w.heap.size w W' ∧ W'.cell? a = some v ∧ W'.rangeAt b1 o1 c1 ∧ W'.rangeAt b2 o2 c2 := ⟨bl_call h.1 hb, (hb.cell (World.block_lt_of_cell? W _ h.2.1)).trans h.2.1, range_kept h.2.2.1 hb, range_kept h.2.2.2 hb⟩

set_option maxRecDepth 100000 in
set_option maxHeartbeats 1000000 in
theorem AreDistinct1_any (fs : List (List Int)) (hv : vfs fs = true) (h40 : fs.length ≤ 40) (A : Option Addr) (c B i k : Nat) (hik : i < k) (hk : k < fs.length) (w : World) (hs : SlF w A fs) (hB : w.cell? ⟨B, 0, none⟩ = some (.slice A fs.length c)) :
    Calls Try.prog 76 #[.int .i64 (i : Int), .int .i64 (k : Int), .pointer (some ⟨B, 0, none⟩)] w fun e w' => e = .returned (.int .i64 (farP fs i k)) ∧ Below w.heap.size w w' := by
  obtain ⟨b, o, rfl, hr⟩ := hs.2.2.2 (by omega)
  have hi : i < fs.length := by omega
  have li := hs.len i hi
  have lk := hs.len k hk
  have hi1 := info_len li
  have hi2 := info_len lk
  have S0 : Below w.heap.size w w ∧ w.cell? ⟨B, 0, none⟩ = some (.slice (some ⟨b, o, none⟩) fs.length c) ∧ w.rangeAt b (o + i * 24) (u8s (nthF fs i)) ∧ w.rangeAt b (o + k * 24) (u8s (nthF fs k)) :=
    ⟨Below.refl _ _, hB, hr i _ (nthF_get? fs i hi), hr k _ (nthF_get? fs k hk)⟩
  have key := fun W => afar_any (nthF fs i) (nthF fs k) li lk (hs.bytes i hi) (hs.bytes k hk) (vfs_at hv i hi) (vfs_at hv k hk) W
  have hi' : (i : Int) < (fs.length : Int) := by omega
  have hk' : (k : Int) < (fs.length : Int) := by omega
  unfold farP farD
  generalize diffs (blurL (nthF fs i)) (blurL (nthF fs k)) 6 = dd at *
  clear hr hs hB
  generalize nthF fs i = fi at *
  generalize nthF fs k = fk at *
  generalize fs.length = n at *
  go_enter Try.func76, Try.ntmps76
  go_wp2_with (fail)
  unfold fl at *
  refine wp_region_held_drew (S := (fun W => Below w.heap.size w W ∧ W.cell? ⟨B, 0, none⟩ = some (.slice (some ⟨b, o, none⟩) n c) ∧ W.rangeAt b (o + i * 24) (u8s fi) ∧ W.rangeAt b (o + k * 24) (u8s fk))) (by kernel_rfl) ⟨S0.1.drew, S0.2.1, S0.2.2.1, S0.2.2.2⟩ (fun hHeld => ?_)
  (refine hTake 0 6 (v := .slice (some ⟨b, o, none⟩) n c) rfl rfl (by kernel_rfl) (by kernel_rfl) (by kernel_rfl) (fun _ _ _ h => h) (Or.inl ⟨by rfl, fun W h => by (have h1 := h.2.1; clear h; go_simp)⟩) hHeld ?_; simp only [List.set_cons_zero, List.set_cons_succ])
  (refine hTake 4 10 (v := .slice (some ⟨b, o, none⟩) n c) rfl rfl (by kernel_rfl) (by kernel_rfl) (by kernel_rfl) (fun _ _ _ h => h) (Or.inl ⟨by rfl, fun W h => by (have h1 := h.2.1; clear h; go_simp)⟩) hHeld ?_; simp only [List.set_cons_zero, List.set_cons_succ])
  (refine hTake 1 7 (v := .int .i64 (i : Int)) rfl rfl (by kernel_rfl) (by kernel_rfl) (by kernel_rfl) (fun _ _ _ h => h) (Or.inl ⟨by rfl, fun W _ => rfl⟩) hHeld ?_; simp only [List.set_cons_zero, List.set_cons_succ])
  (refine hTake 5 11 (v := .int .i64 (k : Int)) rfl rfl (by kernel_rfl) (by kernel_rfl) (by kernel_rfl) (fun _ _ _ h => h) (Or.inl ⟨by rfl, fun W _ => rfl⟩) hHeld ?_; simp only [List.set_cons_zero, List.set_cons_succ])
  (refine hTake 2 8 (v := .pointer (some ⟨b, o + i * 24, none⟩)) rfl rfl (by kernel_rfl) (by kernel_rfl) (by kernel_rfl) (fun _ _ _ h => h) (Or.inl ⟨by rfl, fun W _ => by go_simp⟩) hHeld ?_; simp only [List.set_cons_zero, List.set_cons_succ])
  (refine hTake 6 12 (v := .pointer (some ⟨b, o + k * 24, none⟩)) rfl rfl (by kernel_rfl) (by kernel_rfl) (by kernel_rfl) (fun _ _ _ h => h) (Or.inl ⟨by rfl, fun W _ => by go_simp⟩) hHeld ?_; simp only [List.set_cons_zero, List.set_cons_succ])
  (refine hTake 3 9 rfl rfl (by kernel_rfl) (by kernel_rfl) (by kernel_rfl) (fun _ _ _ h => h) (yieldsIf_load_mid (by rfl) _ _ rfl _ _ rfl (u8s fi) _ (fun W h => h.2.2.1) Try.underlying38 rfl hi1) hHeld ?_; simp only [List.set_cons_zero, List.set_cons_succ])
  (refine hTake 7 13 rfl rfl (by kernel_rfl) (by kernel_rfl) (by kernel_rfl) (fun _ _ _ h => h) (yieldsIf_load_mid (by rfl) _ _ rfl _ _ rfl (u8s fk) _ (fun W h => h.2.2.2) Try.underlying38 rfl hi2) hHeld ?_; simp only [List.set_cons_zero, List.set_cons_succ])
  refine hCall 8 14 48 rfl rfl (by kernel_rfl) (args := #[.agg (u8s fi).toArray, .agg (u8s fk).toArray]) (by rfl) (by go_simp) (.int .i64 dd) (key _) (fun wq hq => ⟨keepP hHeld hq, ?_⟩)
  simp only [List.set_cons_zero, List.set_cons_succ]
  replace hHeld := keepP hHeld hq
  (refine hTake 9 5 (v := .int .i64 dd) rfl rfl (by kernel_rfl) (by kernel_rfl) (by kernel_rfl) (fun _ _ _ h => h) (Or.inl ⟨by rfl, fun W _ => rfl⟩) hHeld ?_; simp only [List.set_cons_zero, List.set_cons_succ])
  refine wpAnyH_done (by kernel_rfl) ?_ _
  go_wp2_with (fail)
  go_ret
  exact ⟨rfl, hHeld.1⟩

set_option maxRecDepth 100000 in
set_option maxHeartbeats 1000000 in
theorem NearestPair1_any (fs : List (List Int)) (hv : vfs fs = true) (h40 : fs.length ≤ 40) (A : Option Addr) (c B i k : Nat) (hik : i < k) (hk : k < fs.length) (w : World) (hs : SlF w A fs) (hB : w.cell? ⟨B, 0, none⟩ = some (.slice A fs.length c)) :
    Calls Try.prog 78 #[.int .i64 (i : Int), .int .i64 (k : Int), .pointer (some ⟨B, 0, none⟩)] w fun e w' => e = .returned (.int .i64 (farP fs i k)) ∧ Below w.heap.size w w' := by
  obtain ⟨b, o, rfl, hr⟩ := hs.2.2.2 (by omega)
  have hi : i < fs.length := by omega
  have li := hs.len i hi
  have lk := hs.len k hk
  have hi1 := info_len li
  have hi2 := info_len lk
  have S0 : Below w.heap.size w w ∧ w.cell? ⟨B, 0, none⟩ = some (.slice (some ⟨b, o, none⟩) fs.length c) ∧ w.rangeAt b (o + i * 24) (u8s (nthF fs i)) ∧ w.rangeAt b (o + k * 24) (u8s (nthF fs k)) :=
    ⟨Below.refl _ _, hB, hr i _ (nthF_get? fs i hi), hr k _ (nthF_get? fs k hk)⟩
  have key := fun W => afar_any (nthF fs i) (nthF fs k) li lk (hs.bytes i hi) (hs.bytes k hk) (vfs_at hv i hi) (vfs_at hv k hk) W
  have hi' : (i : Int) < (fs.length : Int) := by omega
  have hk' : (k : Int) < (fs.length : Int) := by omega
  unfold farP farD
  generalize diffs (blurL (nthF fs i)) (blurL (nthF fs k)) 6 = dd at *
  clear hr hs hB
  generalize nthF fs i = fi at *
  generalize nthF fs k = fk at *
  generalize fs.length = n at *
  go_enter Try.func78, Try.ntmps78
  go_wp2_with (fail)
  unfold fl at *
  refine wp_region_held_drew (S := (fun W => Below w.heap.size w W ∧ W.cell? ⟨B, 0, none⟩ = some (.slice (some ⟨b, o, none⟩) n c) ∧ W.rangeAt b (o + i * 24) (u8s fi) ∧ W.rangeAt b (o + k * 24) (u8s fk))) (by kernel_rfl) ⟨S0.1.drew, S0.2.1, S0.2.2.1, S0.2.2.2⟩ (fun hHeld => ?_)
  (refine hTake 0 6 (v := .slice (some ⟨b, o, none⟩) n c) rfl rfl (by kernel_rfl) (by kernel_rfl) (by kernel_rfl) (fun _ _ _ h => h) (Or.inl ⟨by rfl, fun W h => by (have h1 := h.2.1; clear h; go_simp)⟩) hHeld ?_; simp only [List.set_cons_zero, List.set_cons_succ])
  (refine hTake 4 10 (v := .slice (some ⟨b, o, none⟩) n c) rfl rfl (by kernel_rfl) (by kernel_rfl) (by kernel_rfl) (fun _ _ _ h => h) (Or.inl ⟨by rfl, fun W h => by (have h1 := h.2.1; clear h; go_simp)⟩) hHeld ?_; simp only [List.set_cons_zero, List.set_cons_succ])
  (refine hTake 1 7 (v := .int .i64 (i : Int)) rfl rfl (by kernel_rfl) (by kernel_rfl) (by kernel_rfl) (fun _ _ _ h => h) (Or.inl ⟨by rfl, fun W _ => rfl⟩) hHeld ?_; simp only [List.set_cons_zero, List.set_cons_succ])
  (refine hTake 5 11 (v := .int .i64 (k : Int)) rfl rfl (by kernel_rfl) (by kernel_rfl) (by kernel_rfl) (fun _ _ _ h => h) (Or.inl ⟨by rfl, fun W _ => rfl⟩) hHeld ?_; simp only [List.set_cons_zero, List.set_cons_succ])
  (refine hTake 2 8 (v := .pointer (some ⟨b, o + i * 24, none⟩)) rfl rfl (by kernel_rfl) (by kernel_rfl) (by kernel_rfl) (fun _ _ _ h => h) (Or.inl ⟨by rfl, fun W _ => by go_simp⟩) hHeld ?_; simp only [List.set_cons_zero, List.set_cons_succ])
  (refine hTake 6 12 (v := .pointer (some ⟨b, o + k * 24, none⟩)) rfl rfl (by kernel_rfl) (by kernel_rfl) (by kernel_rfl) (fun _ _ _ h => h) (Or.inl ⟨by rfl, fun W _ => by go_simp⟩) hHeld ?_; simp only [List.set_cons_zero, List.set_cons_succ])
  (refine hTake 3 9 rfl rfl (by kernel_rfl) (by kernel_rfl) (by kernel_rfl) (fun _ _ _ h => h) (yieldsIf_load_mid (by rfl) _ _ rfl _ _ rfl (u8s fi) _ (fun W h => h.2.2.1) Try.underlying38 rfl hi1) hHeld ?_; simp only [List.set_cons_zero, List.set_cons_succ])
  (refine hTake 7 13 rfl rfl (by kernel_rfl) (by kernel_rfl) (by kernel_rfl) (fun _ _ _ h => h) (yieldsIf_load_mid (by rfl) _ _ rfl _ _ rfl (u8s fk) _ (fun W h => h.2.2.2) Try.underlying38 rfl hi2) hHeld ?_; simp only [List.set_cons_zero, List.set_cons_succ])
  refine hCall 8 14 48 rfl rfl (by kernel_rfl) (args := #[.agg (u8s fi).toArray, .agg (u8s fk).toArray]) (by rfl) (by go_simp) (.int .i64 dd) (key _) (fun wq hq => ⟨keepP hHeld hq, ?_⟩)
  simp only [List.set_cons_zero, List.set_cons_succ]
  replace hHeld := keepP hHeld hq
  (refine hTake 9 5 (v := .int .i64 dd) rfl rfl (by kernel_rfl) (by kernel_rfl) (by kernel_rfl) (fun _ _ _ h => h) (Or.inl ⟨by rfl, fun W _ => rfl⟩) hHeld ?_; simp only [List.set_cons_zero, List.set_cons_succ])
  refine wpAnyH_done (by kernel_rfl) ?_ _
  go_wp2_with (fail)
  go_ret
  exact ⟨rfl, hHeld.1⟩
end Go.Proofs.Ytjppoejkfpeicaa

/- Plain facts: what the search for the nearest pair finds. -/
set_option linter.unusedVariables false
set_option linter.unusedSimpArgs false
namespace Go.Proofs.Ytjppoejkfpeicaa
open Go.RowKit

/-- The pairs looked at behind i rows and j pairs of row i. -/
def Seen (n i j x y : Nat) : Prop := x < y ∧ y < n ∧ (x < i ∨ x = i ∧ y < i + 1 + j)
/-- What is known of the state. -/
def Known (d : Nat → Nat → Int) (n i j : Nat) (s : Int × Int × Int) : Prop :=
  (s.2.2 < 0 ∧ s = none3 ∧ ∀ x y, ¬ Seen n i j x y) ∨ (0 ≤ s.2.2 ∧ (∀ x y, Seen n i j x y → s.2.2 ≤ d x y) ∧ ∃ x y, Seen n i j x y ∧ s = ((x : Int), (y : Int), d x y))
theorem known_step (d : Nat → Nat → Int) (n i j : Nat) (hd : ∀ x y, x < y → y < n → 0 ≤ d x y) (hj : i + 1 + j < n) (s : Int × Int × Int) (h : Known d n i j s) : Known d n i (j + 1) (stepN d i (i + 1 + j) s) := by
  have h0 := hd i (i + 1 + j) (by omega) hj
  have hnew : Seen n i (j + 1) i (i + 1 + j) := ⟨by omega, hj, .inr ⟨rfl, by omega⟩⟩
  have hold : ∀ x y, Seen n i (j + 1) x y → Seen n i j x y ∨ (x = i ∧ y = i + 1 + j) := by
    intro x y ⟨h1, h2, h3⟩
    by_cases e : x = i ∧ y = i + 1 + j
    · exact .inr e
    · exact .inl ⟨h1, h2, by omega⟩
  have hup : ∀ x y, Seen n i j x y → Seen n i (j + 1) x y := fun x y ⟨h1, h2, h3⟩ => ⟨h1, h2, by omega⟩
  unfold stepN
  rcases h with ⟨h1, h2, h3⟩ | ⟨h1, h2, x, y, h3, h4⟩
  · rw [if_pos (.inl h1)]
    refine .inr ⟨h0, fun a b hab => ?_, i, i + 1 + j, hnew, rfl⟩
    rcases hold a b hab with h | ⟨rfl, rfl⟩
    · exact absurd h (h3 a b)
    · exact Int.le_refl _
  · by_cases ht : d i (i + 1 + j) < s.2.2
    · rw [if_pos (.inr ht)]
      refine .inr ⟨h0, fun a b hab => ?_, i, i + 1 + j, hnew, rfl⟩
      rcases hold a b hab with h | ⟨rfl, rfl⟩
      · have := h2 a b h; show d i (i + 1 + j) ≤ d a b; omega
      · exact Int.le_refl _
    · rw [if_neg (by omega)]
      refine .inr ⟨h1, fun a b hab => ?_, x, y, hup x y h3, h4⟩
      rcases hold a b hab with h | ⟨rfl, rfl⟩
      · exact h2 a b h
      · omega
theorem known_row (d : Nat → Nat → Int) (n i : Nat) (hd : ∀ x y, x < y → y < n → 0 ≤ d x y) (s : Int × Int × Int) (h : Known d n i 0 s) : ∀ j, i + 1 + j ≤ n → Known d n i j (rowN d i j s)
  | 0, _ => h
  | j + 1, hj => known_step d n i j hd (by omega) _ (known_row d n i hd s h j (by omega))
theorem known_all (d : Nat → Nat → Int) (n : Nat) (hd : ∀ x y, x < y → y < n → 0 ≤ d x y) : ∀ i, i ≤ n → Known d n i 0 (allN d n none3 i)
  | 0, _ => .inl ⟨by show (-1 : Int) < 0; decide, rfl, fun x y ⟨h1, h2, h3⟩ => by omega⟩
  | i + 1, hi => by
    have h := known_row d n i hd _ (known_all d n hd i (by omega)) (n - (i + 1)) (by omega)
    have e : ∀ x y, Seen n (i + 1) 0 x y ↔ Seen n i (n - (i + 1)) x y := fun x y => ⟨fun ⟨h1, h2, h3⟩ => ⟨h1, h2, by omega⟩, fun ⟨h1, h2, h3⟩ => ⟨h1, h2, by omega⟩⟩
    show Known d n (i + 1) 0 (rowN d i (n - (i + 1)) (allN d n none3 i))
    rcases h with ⟨h1, h2, h3⟩ | ⟨h1, h2, x, y, h3, h4⟩
    · exact .inl ⟨h1, h2, fun x y hs => h3 x y ((e x y).1 hs)⟩
    · exact .inr ⟨h1, fun a b hs => h2 a b ((e a b).1 hs), x, y, (e x y).2 h3, h4⟩
/-- All pairs differ enough. -/
def apart (d : Nat → Nat → Int) (n : Nat) (least : Int) : Bool := (List.range n).all fun y => (List.range y).all fun x => decide (least ≤ d x y)
theorem apart_iff (d : Nat → Nat → Int) (n : Nat) (least : Int) : apart d n least = true ↔ ∀ x y, x < y → y < n → least ≤ d x y := by
  unfold apart
  simp only [List.all_eq_true, List.mem_range, decide_eq_true_eq]
  exact ⟨fun h x y hxy hy => h y hy x hxy, fun h y hy x hxy => h x y hxy hy⟩
theorem near_apart (d : Nat → Nat → Int) (n : Nat) (least : Int) (hd : ∀ x y, x < y → y < n → 0 ≤ d x y) :
    (!decide (0 ≤ (allN d n none3 n).2.2) || decide (least ≤ (allN d n none3 n).2.2)) = apart d n least := by
  rw [Bool.eq_iff_iff, apart_iff]
  simp only [Bool.or_eq_true, Bool.not_eq_true', decide_eq_false_iff_not, decide_eq_true_eq]
  rcases known_all d n hd n (Nat.le_refl _) with ⟨h1, h2, h3⟩ | ⟨h1, h2, x, y, h3, h4⟩
  · exact ⟨fun _ a b hab hb => absurd ⟨hab, hb, .inl (by omega)⟩ (h3 a b), fun _ => .inl (by omega)⟩
  · constructor
    · intro h a b hab hb
      have := h2 a b ⟨hab, hb, .inl (by omega)⟩
      omega
    · intro h
      have := h x y h3.1 h3.2.1
      rw [h4]; exact .inr this
theorem near_ok (d : Nat → Nat → Int) (n : Nat) (hd : ∀ x y, x < y → y < n → 0 ≤ d x y) : decide (0 ≤ (allN d n none3 n).2.2) = decide (2 ≤ n) := by
  rw [decide_eq_decide]
  rcases known_all d n hd n (Nat.le_refl _) with ⟨h1, h2, h3⟩ | ⟨h1, h2, x, y, h3, h4⟩
  · constructor
    · omega
    · intro h; exact absurd ⟨by omega, by omega, .inl (by omega)⟩ (h3 0 1)
  · have := h3.1; have := h3.2.1; omega
/-- It begins with the first pair as well. -/
theorem row_first (d : Nat → Nat → Int) (h0 : 0 ≤ d 0 1) : ∀ j, rowN d 0 (j + 1) none3 = rowN d 0 (j + 1) (0, 1, d 0 1)
  | 0 => by
    show stepN d 0 1 none3 = stepN d 0 1 (0, 1, d 0 1)
    unfold stepN
    rw [if_pos (.inl (by decide)), if_neg (show ¬ (d 0 1 < 0 ∨ d 0 1 < d 0 1) by omega)]
    rfl
  | j + 1 => by
    show stepN d 0 (0 + 1 + (j + 1)) (rowN d 0 (j + 1) none3) = stepN d 0 (0 + 1 + (j + 1)) (rowN d 0 (j + 1) (0, 1, d 0 1))
    rw [row_first d h0 j]
theorem all_first (d : Nat → Nat → Int) (n : Nat) (h0 : 0 ≤ d 0 1) (hn : 2 ≤ n) : ∀ i, allN d n none3 (i + 1) = allN d n (0, 1, d 0 1) (i + 1)
  | 0 => by
    show rowN d 0 (n - 1) none3 = rowN d 0 (n - 1) (0, 1, d 0 1)
    obtain ⟨m, rfl⟩ : ∃ m, n = m + 2 := ⟨n - 2, by omega⟩
    exact row_first d h0 m
  | i + 1 => by
    show rowN d (i + 1) _ (allN d n none3 (i + 1)) = rowN d (i + 1) _ (allN d n (0, 1, d 0 1) (i + 1))
    rw [all_first d n h0 hn i]
/-- From a state that is found on, the least distance stays one. -/
theorem step_pos (d : Nat → Nat → Int) (i k : Nat) (h : 0 ≤ d i k) (s : Int × Int × Int) (hs : 0 ≤ s.2.2) : 0 ≤ (stepN d i k s).2.2 := by
  unfold stepN; split
  · exact h
  · exact hs
theorem row_pos (d : Nat → Nat → Int) (n i : Nat) (hd : ∀ x y, x < y → y < n → 0 ≤ d x y) (s : Int × Int × Int) (hs : 0 ≤ s.2.2) : ∀ j, i + 1 + j ≤ n → 0 ≤ (rowN d i j s).2.2
  | 0, _ => hs
  | j + 1, hj => step_pos d i _ (hd i (i + 1 + j) (by omega) (by omega)) _ (row_pos d n i hd s hs j (by omega))
theorem all_pos (d : Nat → Nat → Int) (n : Nat) (hd : ∀ x y, x < y → y < n → 0 ≤ d x y) (s : Int × Int × Int) (hs : 0 ≤ s.2.2) : ∀ i, i ≤ n → 0 ≤ (allN d n s i).2.2
  | 0, _ => hs
  | i + 1, hi => row_pos d n i hd _ (all_pos d n hd s hs i (by omega)) _ (by omega)
end Go.Proofs.Ytjppoejkfpeicaa

/- Contracts: AreDistinct, both sides. -/
set_option linter.unusedVariables false
set_option linter.unusedSimpArgs false
namespace Go.Proofs.Ytjppoejkfpeicaa
open Go.RowKit

theorem farP_bd (fs : List (List Int)) (i k : Nat) : 0 ≤ farP fs i k ∧ farP fs i k ≤ 6 := diffs_bd _ _ 6
/-- What AreDistinct answers. -/
def distB (fs : List (List Int)) (n : Int) : Bool := decide (askC fs n = 0) && apart (farP fs) fs.length n
theorem ask_ok {fs : List (List Int)} {n : Int} (h : askC fs n = 0) : vfs fs = true ∧ fs.length ≤ 40 := by
  unfold askC setC at h
  cases h1 : vfs fs
  · rw [h1] at h; simp at h
  · refine ⟨rfl, ?_⟩
    rw [h1] at h
    by_cases h2 : 40 < fs.length
    · simp [h2] at h
    · omega
theorem keepR {w W W' : World} {b1 o1 b2 o2 : Nat} {c1 c2 : List Value} (h : Below w.heap.size w W ∧ W.rangeAt b1 o1 c1 ∧ W.rangeAt b2 o2 c2) (hb : Below W.heap.size W W') :
    Below w.heap.size w W' ∧ W'.rangeAt b1 o1 c1 ∧ W'.rangeAt b2 o2 c2 := ⟨bl_call h.1 hb, range_kept h.2.1 hb, range_kept h.2.2 hb⟩

set_option maxHeartbeats 1000000 in
theorem AreDistinct_any (fs : List (List Int)) (A : Option Addr) (c : Nat) (n : Int) (w : World) (hs : SlF w A fs) :
    Calls Try.prog 37 #[.slice A fs.length c, .int .i64 n] w fun e w' => e = .returned (.tuple #[.bool (distB fs n), .int .i64 (askC fs n)]) ∧ Below w.heap.size w w' := by
  have V0 : Blk (w.alloc (.cells #[.slice A fs.length c] 27)) w.heap.size [.slice A fs.length c] 27 := Blk.mk _ [_] _ rfl
  have b0 := bl_new (Below.refl _ w) (.cells #[.slice A fs.length c] 27)
  have hs1 := hs.kept b0
  have k1 := setCode_any fs A c n (w.alloc (.cells #[.slice A fs.length c] 27)) hs1
  have hbig := hs.1
  by_cases h0 : askC fs n = 0
  · obtain ⟨hv, h40⟩ := ask_ok h0
    have hD : distB fs n = apart (farP fs) fs.length n := by unfold distB; rw [h0]; simp
    have hA := near_apart (farP fs) fs.length n (fun x y _ _ => (farP_bd fs x y).1)
    have kn := fun (W : World) (hW : SlF W A fs) (hC : W.cell? ⟨w.heap.size, 0, none⟩ = some (.slice A fs.length c)) => nearest_any 76 #[.pointer (some ⟨w.heap.size, 0, none⟩)] (enters Try.func76 (by kernel_rfl) rfl) fs.length (by omega) (farP fs) W
      (fun W' i k hik hk hb => AreDistinct1_any fs hv h40 A c w.heap.size i k hik hk W' (hW.kept hb) ((hb.cell (World.block_lt_of_cell? W _ hC)).trans hC))
    rw [h0] at k1 ⊢
    rw [hD, ← hA]
    clear hD hA h0
    generalize (allN (farP fs) fs.length none3 fs.length).1 = ra at *
    generalize (allN (farP fs) fs.length none3 fs.length).2.1 = rb at *
    generalize (allN (farP fs) fs.length none3 fs.length).2.2 = rl at *
    have hl40 : (fs.length : Int) ≤ 40 := by omega
    by_cases h1 : 0 ≤ rl
    · by_cases h2 : n ≤ rl
      all_goals
        go_enter Try.func37, Try.ntmps37
        have c0 := V0.at 0
        simp only [List.getElem?_cons_zero] at c0
        go_wp2_with (fail)
        refine (k1).mono ?_; rintro e w1 ⟨rfl, hb1⟩
        have V1 := V0.kept hb1
        have c1 := V1.at 0
        simp only [List.getElem?_cons_zero] at c1
        go_wp2_with (fail)
        refine (kn _ (hs1.kept hb1) c1).mono ?_; rintro e w2 ⟨rfl, hb2⟩
        go_wp2_with (fail)
        go_ret2
        exact ⟨ret_b2 (by simp [h1, h2]) rfl, bl_call (bl_call b0 hb1) hb2⟩
    · go_enter Try.func37, Try.ntmps37
      have c0 := V0.at 0
      simp only [List.getElem?_cons_zero] at c0
      go_wp2_with (fail)
      refine (k1).mono ?_; rintro e w1 ⟨rfl, hb1⟩
      have V1 := V0.kept hb1
      have c1 := V1.at 0
      simp only [List.getElem?_cons_zero] at c1
      go_wp2_with (fail)
      refine (kn _ (hs1.kept hb1) c1).mono ?_; rintro e w2 ⟨rfl, hb2⟩
      go_wp2_with (fail)
      go_ret2
      exact ⟨ret_b2 (by simp [h1]) rfl, bl_call (bl_call b0 hb1) hb2⟩
  · have hD : distB fs n = false := by unfold distB; simp [h0]
    rw [hD]
    generalize askC fs n = cc at *
    have h0' : (cc != 0) = true := by simp [h0]
    clear h0 hD
    go_enter Try.func37, Try.ntmps37
    have c0 := V0.at 0
    simp only [List.getElem?_cons_zero] at c0
    go_wp2_with (fail)
    refine (k1).mono ?_; rintro e w1 ⟨rfl, hb1⟩
    go_wp2_with (fail)
    go_ret2
    exact ⟨rfl, bl_call b0 hb1⟩

end Go.Proofs.Ytjppoejkfpeicaa

/- Contracts: laws.toHoist; SameHoist: both sides. -/
set_option linter.unusedVariables false
namespace Go.Proofs.Ytjppoejkfpeicaa
open Go.RowKit

theorem made_list (v : Value) (n : Nat) : (madeCells #[v] n).toList = List.replicate n v := by
  apply List.ext_getElem
  · simp [madeCells]
  · intro i h1 h2
    simp [madeCells, Nat.mod_one]
/-- 'make([]T, n)' as the walk meets it. -/
theorem make_of {P : Program} (t e : TypeId) (z : Value) (bytes : Nat) (ht : P.underlying t = some (.slice e)) (hinfo : (P.info? e).map (fun i => (i.zero, i.size, i.bytes)) = some (some z, 1, bytes)) (hz : z.cells = #[z]) (hb0 : 0 < bytes)
    (n : Nat) (hn : n * bytes ≤ 281474976710656) (W : World) : (Instr.makeSlice t (.int .i64 (n : Int)) (.int .i64 (n : Int))).run P W = .ok (.slice (some ⟨W.heap.size, 0, none⟩) n n) (W.alloc (.cells (List.replicate n z).toArray e)) := by
  have hm : n ≤ 281474976710656 := Nat.le_trans (Nat.le_mul_of_pos_right _ hb0) hn
  rw [run_make_row' t e z bytes ht hinfo hz .i64 .i64 n (by rw [Nat.mul_comm]; exact hn) (by omega) W, ← made_list z n]
theorem i8s_replicate (n : Nat) : List.replicate n (Value.int .i8 0) = i8s (List.replicate n 0) := by simp [i8s]
theorem Blk.sl {k : IntKind} {w : World} {b : Nat} {xs : List Int} {t : TypeId} (h : Blk w b (xs.map (Value.int k)) t) (hl : xs.length ≤ 9223372036854775807) : Sl k w (Option.some ⟨b, 0, none⟩) xs :=
  And.intro hl fun _ => ⟨b, 0, rfl, h.range⟩

end Go.Proofs.Ytjppoejkfpeicaa

/- Contracts: laws.toInt64S, eqInt64S. -/
set_option linter.unusedVariables false
namespace Go.Proofs.Ytjppoejkfpeicaa
open Go.RowKit

theorem info_i64 : (Try.prog.info? 2).map (fun i => (i.zero, i.size, i.bytes)) = some (some (.int .i64 0), 1, 8) := by kernel_rfl
theorem i64s_replicate (n : Nat) : List.replicate n (Value.int .i64 0) = i64s (List.replicate n 0) := by simp [i64s]
set_option maxHeartbeats 400000 in
theorem eqInt64S_any (xs ys : List Int) (A A' : Option Addr) (c c' : Nat) (w : World) (h1 : Sl .i64 w A xs) (h2 : Sl .i64 w A' ys) :
    Calls Try.prog 11 #[.slice A xs.length c, .slice A' ys.length c'] w fun e w' => e = .returned (.bool (decide (xs = ys))) ∧ Below w.heap.size w w' := by
  have hbig := h1.1
  have hbig2 := h2.1
  by_cases hl : xs.length = ys.length
  · have HL := As.mk hl
    generalize hn : ys.length = n at *
    have hne : ((n : Int) != (n : Int)) = false := by simp
    rw [hl] at hbig ⊢
    have HN := As.mk hn
    clear hl hn
    go_enter Try.func11, Try.ntmps11
    go_wp2
    go_loopw [5] (fun i wr => ∃ k q : Nat, k ≤ n ∧ i = .int .i64 k ∧ wr = w.drewN q ∧ As (∀ j, j < k → nth xs j = nth ys j)) (fun i _ => n - (intOf i).toNat)
    case atStart => exact ⟨0, 0, by omega, rfl, rfl, ⟨fun j hj => by omega⟩⟩
    case round =>
      obtain ⟨k, q, hk, rfl, rfl, H⟩ := hrel
      by_cases hlt : k < n
      · have hlt' : (k : Int) < (n : Int) := by omega
        obtain ⟨b, o, rfl, hr⟩ := h1.2 (by rw [HL.out]; omega)
        obtain ⟨b', o', rfl, hr'⟩ := h2.2 (by rw [HN.out]; omega)
        have c0 : w.cell? ⟨b, o + k, none⟩ = some (.int .i64 (nth xs k)) := hr k _ (i64s_get xs k (by rw [HL.out]; omega))
        have c1 : w.cell? ⟨b', o' + k, none⟩ = some (.int .i64 (nth ys k)) := hr' k _ (i64s_get ys k (by rw [HN.out]; omega))
        go_wp2
        go_quiet (fail)
        go_wp2
        · have ht : (nth xs k != nth ys k) = true := by assumption
          go_ret
          exact ⟨ret_b (nth_ne ht).symm, bl_drewN (bl_drewN (Below.refl _ _) _) _⟩
        · have ht : (nth xs k != nth ys k) = false := by assumption
          go_roundw
          case rel => exact ⟨k + 1, _, by omega, by go_num, rfl, ⟨all_succ H.out (by simpa using ht)⟩⟩
          case measure => simp [intOf]; omega
      · obtain rfl : k = n := by omega
        go_wp2
        go_ret
        exact ⟨ret_b (by symm; rw [decide_eq_true_eq]; exact nth_ext xs ys (by rw [HL.out, HN.out]) (by rw [HL.out]; exact H.out)), bl_drewN (Below.refl _ _) _⟩
  · have hne : (((xs.length : Nat) : Int) != ((ys.length : Nat) : Int)) = true := by rw [bne_iff_ne]; omega
    have hd : decide (xs = ys) = false := by rw [decide_eq_false_iff_not]; rintro rfl; exact hl rfl
    rw [hd]
    clear hl hd
    go_enter Try.func11, Try.ntmps11
    go_wp2
    go_ret
    exact ⟨rfl, Below.refl _ _⟩

end Go.Proofs.Ytjppoejkfpeicaa

/- Slices that a law holds: marked, held; what a call made as a slice of numbers. (The contracts below the head are printed by genh.py.) -/
set_option linter.unusedVariables false
namespace Go.Proofs.Ytjppoejkfpeicaa
open Go.RowKit

section
variable {w w' : World} {base : Nat} {e : TypeId} {v : Value} {cs : List Value}
theorem Own.sl {k : IntKind} {xs : List Int} (h : Own w base e v (xs.map (Value.int k))) : ∃ A c, v = .slice A xs.length c ∧ Sl k w A xs := by
  rcases h.form with ⟨rfl, hn⟩ | ⟨g, c, rfl, _, _, hr, _, hm, _⟩
  · have : xs = [] := by simpa using hn
    subst this
    exact ⟨none, 0, rfl, ⟨by simp, fun hp => by simp at hp⟩⟩
  · rw [List.length_map] at hm ⊢
    exact ⟨_, c, rfl, ⟨hm, fun _ => ⟨g, 0, rfl, hr⟩⟩⟩
theorem Blk.own {b : Nat} (h : Blk w b cs e) (hb : base ≤ b) (hm : cs.length ≤ 9223372036854775807) : Own w base e (.slice (Option.some ⟨b, 0, none⟩) cs.length cs.length) cs :=
  And.intro (by simp) (Or.inr ⟨b, cs.length, cs.toArray, rfl, hb, h, Nat.le_refl _, by simp only [maxLen]; omega, by simp, by simp⟩)
theorem Own.addr {A : Option Addr} {n c : Nat} (h : Own w base e (.slice A n c) cs) (hp : 0 < cs.length) : ∃ g, A = some ⟨g, 0, none⟩ := by
  rcases h.form with ⟨_, rfl⟩ | ⟨g, c, hv, _⟩
  · simp at hp
  · simp only [Value.slice.injEq] at hv; exact ⟨g, hv.1⟩
theorem Own.cellAt {g n c : Nat} (h : Own w base e (.slice (some ⟨g, 0, none⟩) n c) cs) (j : Nat) (hj : j < cs.length) : w.cell? ⟨g, j, none⟩ = cs[j]? := by
  rcases h.form with ⟨hv, _⟩ | ⟨g', c', hv, _, _, hr, _⟩
  · simp at hv
  · simp only [Value.slice.injEq, Option.some.injEq, Addr.mk.injEq, and_true] at hv
    obtain ⟨rfl, _⟩ := hv
    have := hr j cs[j] (List.getElem?_eq_getElem hj)
    rw [Nat.zero_add] at this
    rw [this, List.getElem?_eq_getElem hj]
theorem Own.someAt {g n c : Nat} (h : Own w base e (.slice (some ⟨g, 0, none⟩) n c) cs) (j : Nat) (hj : j < cs.length) : ∃ u, w.cell? ⟨g, j, none⟩ = some u := by
  rw [h.cellAt j hj, List.getElem?_eq_getElem hj]; exact ⟨_, rfl⟩
theorem Own.frozenAt {g n c : Nat} (h : Own w base e (.slice (some ⟨g, 0, none⟩) n c) cs) (j : Nat) : w.frozen? ⟨g, j, none⟩ = false := by
  rcases h.form with ⟨hv, _⟩ | ⟨g', c', hv, _, _, _, hf, _⟩
  · simp at hv
  · simp only [Value.slice.injEq, Option.some.injEq, Addr.mk.injEq, and_true] at hv
    obtain ⟨rfl, _⟩ := hv
    exact hf j
theorem wrap_i64 (n : Int) (h0 : 0 ≤ n) (h1 : n ≤ 2147483647) : IntKind.wrap .i64 n = n := by
  simp [IntKind.wrap, IntKind.bits, IntKind.signed]; omega
/-- What a slice's own turning leaves: all below it. -/
theorem bl_grown {w0 : World} {B : Nat} (hb : Below B w0 w) (hB : B ≤ w.heap.size) (h : Own w base e v cs) (hg : w.grownBy w' v.ownBlock) (hbase : B ≤ base) : Below B w0 w' :=
  hb.grown hg hB (fun k hk => Nat.le_trans hbase (h.ge k hk))
/-- Another slice stays, of which the first lies below the second's begin. -/
theorem Own.kept2 {b2 : Nat} {e2 : TypeId} {u : Value} {ds : List Value} (h : Own w base e v cs) (hlt : ∀ k, v.ownBlock = some k → k < b2) (h2 : Own w b2 e2 u ds) (hg : w.grownBy w' u.ownBlock) : Own w' base e v cs := by
  refine h.grown hg ?_
  cases hv : v.ownBlock with
  | none => exact .inl rfl
  | some k =>
    refine .inr fun e' => ?_
    have := h2.ge k e'.symm
    have := hlt k hv
    omega
end

def marks (kd : IntKind) (k : Int) (n : Nat) : List Int := (List.range n).map fun (i : Nat) => kd.wrap (k + (i : Int))
def marked (kd : IntKind) (k : Int) (xs : List Int) (j : Nat) : List Int := (List.range xs.length).map fun i => if i < j then kd.wrap (k + (i : Int)) else nth xs i
theorem marks_length (kd : IntKind) (k : Int) (n : Nat) : (marks kd k n).length = n := by simp [marks]
theorem marked_length (kd : IntKind) (k : Int) (xs : List Int) (j : Nat) : (marked kd k xs j).length = xs.length := by simp [marked]
theorem marks_nth (kd : IntKind) (k : Int) (n j : Nat) (h : j < n) : nth (marks kd k n) j = kd.wrap (k + (j : Int)) := by unfold marks; rw [nth_map_range _ _ _ h]
theorem marked_zero (kd : IntKind) (k : Int) (xs : List Int) : marked kd k xs 0 = xs := by
  conv => rhs; rw [← range_nth xs _ rfl]
  apply List.map_congr_left
  intro i _
  rw [if_neg (by omega)]
theorem marked_succ (kd : IntKind) (k : Int) (xs : List Int) (j : Nat) : (marked kd k xs j).set j (kd.wrap (k + (j : Int))) = marked kd k xs (j + 1) := by
  apply List.ext_getElem
  · simp [marked]
  · intro i h1 h2
    simp only [List.getElem_set, marked, List.getElem_map, List.getElem_range]
    by_cases h : j = i
    · subst h; simp
    · rw [if_neg h]
      by_cases h3 : i < j
      · rw [if_pos h3, if_pos (by omega)]
      · rw [if_neg h3, if_neg (by omega)]
theorem marked_full (kd : IntKind) (k : Int) (xs : List Int) (j : Nat) (h : xs.length = j) : marked kd k xs j = marks kd k j := by
  subst h
  apply List.map_congr_left
  intro i hi
  rw [if_pos (List.mem_range.1 hi)]

set_option maxHeartbeats 400000 in
theorem markInt64S_any (xs : List Int) (base : Nat) (v : Value) (k0 : Int) (hk1 : 0 ≤ k0) (hk0 : k0 + (xs.length : Int) ≤ 2147483647) (w : World) (h : Own w base 2 v (i64s xs)) :
    Calls Try.prog 14 #[v, .int .i64 k0] w fun e w' => e = .returned (.int .i64 (k0 + (xs.length : Int))) ∧ Own w' base 2 v (i64s (marks .i64 k0 xs.length)) ∧ w.grownBy w' v.ownBlock := by
  obtain ⟨A, c, rfl, S⟩ := h.sl
  have hbig := S.1
  have HX := As.mk (marked_zero .i64 k0 xs)
  have HL := As.mk hk0
  generalize hm : xs.length = n at *
  have HM := As.mk hm
  go_enter Try.func14, Try.ntmps14
  go_wp2
  go_loopw [5, 1] (fun i kk wr => ∃ j : Nat, j ≤ n ∧ i = .int .i64 j ∧ kk = .int .i64 (k0 + (j : Int)) ∧ Own wr base 2 (.slice A n c) (i64s (marked .i64 k0 xs j)) ∧ w.grownBy wr (Value.slice A n c).ownBlock) (fun i kk _ => n - (intOf i).toNat)
  case atStart => exact ⟨0, by omega, rfl, by simp, by rw [HX.out]; exact h, World.grownBy.refl _ _⟩
  case round =>
    obtain ⟨j, hj, rfl, rfl, hO, hg⟩ := hrel
    by_cases hlt : j < n
    · have hlt' : (j : Int) < (n : Int) := by omega
      obtain ⟨g, rfl⟩ := hO.addr (by rw [i64s_length, marked_length, HM.out]; omega)
      have hO' := hO
      have hs := (World.ownsRow.stored (by have := hO; unfold Own at this; rwa [i64s_length, marked_length, HM.out] at this) j (.int .i64 (IntKind.wrap .i64 (k0 + (j : Int))))).2
      have f0 := hO.frozenAt j
      obtain ⟨u0, c1⟩ := hO.someAt j (by rw [i64s_length, marked_length, HM.out]; exact hlt)
      have hw : As (IntKind.wrap .i64 (k0 + (j : Int)) = k0 + (j : Int)) := ⟨wrap_i64 _ (by omega) (by omega)⟩
      rw [hw.out] at hs
      go_wp2
      go_roundw
      case rel => exact ⟨j + 1, by omega, by go_num, by go_num, by have := hO.set (by rw [i64s_length, marked_length, HM.out]) j (.int .i64 (IntKind.wrap .i64 (k0 + (j : Int)))); rw [i64s_set, marked_succ] at this; rw [hw.out] at this; exact this, hg.trans hs⟩
      case measure => simp [intOf]; omega
    · obtain rfl : j = n := by omega
      go_wp2
      go_ret
      exact ⟨rfl, by rw [marked_full .i64 k0 xs j HM.out] at hO; exact hO, hg⟩
set_option maxHeartbeats 400000 in
theorem heldInt64S_any (n : Nat) (A : Option Addr) (c : Nat) (k0 : Int) (hk1 : 0 ≤ k0) (hk0 : k0 + (n : Int) ≤ 2147483647) (w : World) (h : Sl .i64 w A (marks .i64 k0 n)) :
    Calls Try.prog 15 #[.slice A n c, .int .i64 k0] w fun e w' => e = .returned (.int .i64 (k0 + (n : Int))) ∧ Below w.heap.size w w' := by
  have HL := As.mk hk0
  have HM := As.mk (marks_length .i64 k0 n)
  go_enter Try.func15, Try.ntmps15
  go_wp2
  go_loopw [5, 1] (fun i kk wr => ∃ j q : Nat, j ≤ n ∧ i = .int .i64 j ∧ kk = .int .i64 (k0 + (j : Int)) ∧ wr = w.drewN q) (fun i kk _ => n - (intOf i).toNat)
  case atStart => exact ⟨0, 0, by omega, rfl, by simp, rfl⟩
  case round =>
    obtain ⟨j, q, hj, rfl, rfl, rfl⟩ := hrel
    by_cases hlt : j < n
    · have hlt' : (j : Int) < (n : Int) := by omega
      obtain ⟨b, o, rfl, hr⟩ := h.2 (by rw [HM.out]; omega)
      have c0 : w.cell? ⟨b, o + j, none⟩ = some (.int .i64 (IntKind.wrap .i64 (k0 + (j : Int)))) := by
        have := hr j _ (i64s_get _ j (by rw [HM.out]; exact hlt)); rwa [marks_nth _ _ _ _ hlt] at this
      rw [wrap_i64 _ (by omega) (by omega)] at c0
      go_wp2
      go_roundw
      case rel => exact ⟨j + 1, _, by omega, by go_num, by go_num, rfl⟩
      case measure => simp [intOf]; omega
    · obtain rfl : j = n := by omega
      go_wp2
      go_ret
      exact ⟨rfl, bl_drewN (Below.refl _ _) _⟩
end Go.Proofs.Ytjppoejkfpeicaa
