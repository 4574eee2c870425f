/- Contracts: slices.IndexFunc and ContainsFunc over flags; the code of a set of flags, both sides. -/
import Derived.Test.YtjppoejkfpeicaaF2
import Derived.Test.YtjppoejkfpeicaaF7
import Derived.Test.YtjppoejkfpeicaaSet
import Derived.Deep.MidRow
set_option linter.unusedVariables false
set_option linter.unusedSimpArgs false
namespace Go.Proofs.Ytjppoejkfpeicaa
open Go.RowKit

/-- Flag k of a list. -/
def nthF (fs : List (List Int)) (k : Nat) : List Int := fs.getD k []
theorem nthF_get? (fs : List (List Int)) (k : Nat) (h : k < fs.length) : fs[k]? = some (nthF fs k) := by simp [nthF, List.getElem?_eq_getElem h]
theorem nthF_mem (fs : List (List Int)) (k : Nat) (h : k < fs.length) : nthF fs k ∈ fs := List.mem_of_getElem? (nthF_get? fs k h)
theorem SlF.len {w : World} {A : Option Addr} {fs : List (List Int)} (h : SlF w A fs) (k : Nat) (hk : k < fs.length) : (nthF fs k).length = 24 := h.2.1 _ (nthF_mem fs k hk)
theorem SlF.bytes {w : World} {A : Option Addr} {fs : List (List Int)} (h : SlF w A fs) (k : Nat) (hk : k < fs.length) : Bytes (nthF fs k) := h.2.2.1 _ (nthF_mem fs k hk)
theorem info_len {f : List Int} (h : f.length = 24) : (Try.prog.info? 38).map (·.size) = some (u8s f).length := by rw [u8s_length, h]; exact info_fl

set_option maxHeartbeats 400000 in
theorem IndexFunc_fl (g : Nat) (lb : Array Value) (eg : ∀ args w, (callFunc g args).run Try.prog w = .ok (.enter g args) w) (fs : List (List Int)) (p : Nat → Bool) (A : Option Addr) (c : Nat) (w : World)
    (hp : Pred g lb (fun k => fl (nthF fs k)) fs.length p w) (hs : SlF w A fs) :
    Calls Try.prog 97 #[.slice A fs.length c, .func (.func g) #[] lb] w fun e w' => e = .returned (.int .i64 (firstIdx p fs.length 0)) ∧ Below w.heap.size w w' := by
  have hbig := hs.1
  generalize hn : fs.length = n at *
  have HN := As.mk hn
  clear hn
  go_enter Try.func97, Try.ntmps97
  go_wp2
  go_loopw [5, 8] (fun _ i wr => ∃ k : Nat, k ≤ n ∧ i = .int .i64 k ∧ Below w.heap.size w wr ∧ As (∀ j, j < k → p j = false)) (fun _ i _ => n - (intOf i).toNat)
  case atStart => exact ⟨0, by omega, rfl, Below.refl _ _, ⟨fun j hj => by omega⟩⟩
  case round =>
    obtain ⟨k, hk, rfl, hb, H⟩ := hrel
    by_cases hlt : k < n
    · have hlt' : (k : Int) < (n : Int) := by omega
      obtain ⟨b, o, rfl, hr⟩ := (hs.kept hb).2.2.2 (by rw [HN.out]; omega)
      have R := hr k _ (nthF_get? fs k (by rw [HN.out]; exact hlt))
      have hi := info_len (hs.len k (by rw [HN.out]; exact hlt))
      have hcall := hp wr k hlt hb
      cases hq : p k with
      | true =>
        rw [hq] at hcall
        unfold fl at hcall
        go_wp2_with (first | (refine wpList_load_mid rfl 38 _ rfl _ _ rfl _ _ R Try.underlying38 rfl hi ?_) | (refine hcall.mono ?_; rintro e w' ⟨rfl, hb'⟩))
        go_ret
        exact ⟨ret_n (by rw [firstIdx_hit p n 0 k hlt (by simpa using H.out) (by simpa using hq)]; simp), bl_call hb hb'⟩
      | false =>
        rw [hq] at hcall
        unfold fl at hcall
        go_wp2_with (first | (refine wpList_load_mid rfl 38 _ rfl _ _ rfl _ _ R Try.underlying38 rfl hi ?_) | (refine hcall.mono ?_; rintro e w' ⟨rfl, hb'⟩))
        go_roundw
        case rel => exact ⟨k + 1, by omega, by go_num, bl_call hb hb', ⟨all_succ H.out hq⟩⟩
        case measure => simp [intOf]; omega
    · obtain rfl : k = n := by omega
      go_wp2
      go_ret
      exact ⟨ret_n (by rw [firstIdx_miss p k 0 (by simpa using H.out)]), hb⟩

theorem ContainsFunc_fl (g : Nat) (lb : Array Value) (eg : ∀ args w, (callFunc g args).run Try.prog w = .ok (.enter g args) w) (fs : List (List Int)) (p : Nat → Bool) (A : Option Addr) (c : Nat) (w : World)
    (hp : Pred g lb (fun k => fl (nthF fs k)) fs.length p w) (hs : SlF w A fs) :
    Calls Try.prog 81 #[.slice A fs.length c, .func (.func g) #[] lb] w fun e w' => e = .returned (.bool (anyBelow p fs.length)) ∧ Below w.heap.size w w' := by
  rw [← firstIdx_nonneg]
  go_enter Try.func81, Try.ntmps81
  go_wp2_with (fail)
  refine (IndexFunc_fl g lb eg fs p A c _ hp hs).mono ?_; rintro e w1 ⟨rfl, hb⟩
  go_wp2_with (fail)
  go_ret
  exact ⟨rfl, hb⟩

/-- All flags are valid. -/
def vfs (fs : List (List Int)) : Bool := fs.all vf
theorem any_vfs (fs : List (List Int)) : (anyBelow (fun k => !vf (nthF fs k)) fs.length) = !vfs fs := by
  unfold anyBelow vfs
  cases h : fs.all vf
  · rw [List.all_eq_false] at h
    obtain ⟨f, hf, hv⟩ := h
    obtain ⟨i, hi, rfl⟩ := List.mem_iff_getElem.1 hf
    simp only [Bool.not_false, List.any_eq_true]
    refine ⟨i, List.mem_range.2 hi, ?_⟩
    simp only [nthF, List.getD_eq_getElem?_getD, List.getElem?_eq_getElem hi, Option.getD_some]
    simpa using hv
  · rw [List.all_eq_true] at h
    simp only [Bool.not_true, List.any_eq_false]
    intro i hi
    rw [List.mem_range] at hi
    have := h _ (nthF_mem fs i hi)
    simp [this]
theorem vfs_at {fs : List (List Int)} (h : vfs fs = true) (k : Nat) (hk : k < fs.length) : vf (nthF fs k) = true := by
  unfold vfs at h; rw [List.all_eq_true] at h
  exact h _ (nthF_mem fs k hk)

theorem setCode1_any (f : List Int) (hf : f.length = 24) (w : World) : Calls Try.prog 82 #[fl f] w fun e w' => e = .returned (.bool (!vf f)) ∧ Below w.heap.size w w' := by
  unfold fl
  have B0 := Blk.new w (u8s f) 38
  have b0 := bl_new (Below.refl _ w) (.cells (u8s f).toArray 38)
  go_enter Try.func82, Try.ntmps82
  go_wp2_with (refine load_blk rfl 38 _ rfl _ rfl B0 Try.underlying38 rfl info_fl (by rw [u8s_length]; exact hf) ?_)
  refine (ValidFlag_any f hf _).mono ?_; rintro e w1 ⟨rfl, hb1⟩
  go_wp2_with (fail)
  go_ret
  exact ⟨rfl, bl_call b0 hb1⟩

/-- The code of a set of flags. -/
def setC (fs : List (List Int)) : Int := if vfs fs then (if 40 < fs.length then 3 else 0) else 1
/-- The code of a set of flags and a least distance. -/
def askC (fs : List (List Int)) (n : Int) : Int := if setC fs = 0 then (if inR n 0 6 then 0 else 2) else setC fs

set_option maxHeartbeats 800000 in
theorem setCode_any (fs : List (List Int)) (A : Option Addr) (c : Nat) (n : Int) (w : World) (hs : SlF w A fs) :
    Calls Try.prog 45 #[.slice A fs.length c, .int .i64 n] w fun e w' => e = .returned (.int .i64 (askC fs n)) ∧ Below w.heap.size w w' := by
  have key := ContainsFunc_fl 82 #[] (enters Try.func82 (by kernel_rfl) rfl) fs (fun k => !vf (nthF fs k)) A c w (fun W k hk _ => setCode1_any _ (hs.len k hk) W) hs
  rw [any_vfs] at key
  have hbig := hs.1
  cases h1 : vfs fs
  · have hC : askC fs n = 1 := by simp [askC, setC, h1]
    rw [hC]
    clear hC
    rw [h1, Bool.not_false] at key
    go_enter Try.func45, Try.ntmps45
    go_wp2_with (fail)
    refine (key).mono ?_; rintro e w1 ⟨rfl, hb1⟩
    go_wp2_with (fail)
    go_ret
    exact ⟨rfl, hb1⟩
  · rw [h1, Bool.not_true] at key
    by_cases h2 : 40 < fs.length
    · have hC : askC fs n = 3 := by simp [askC, setC, h1, h2]
      rw [hC]
      clear hC
      have h2' : (40 : Int) < (fs.length : Int) := by omega
      go_enter Try.func45, Try.ntmps45
      go_wp2_with (fail)
      refine (key).mono ?_; rintro e w1 ⟨rfl, hb1⟩
      go_wp2_with (fail)
      go_ret
      exact ⟨rfl, hb1⟩
    · have hC : askC fs n = if inR n 0 6 then 0 else 2 := by simp [askC, setC, h1, h2]
      rw [hC]
      clear hC
      have h2' : (fs.length : Int) ≤ 40 := by omega
      cases h3 : inR n 0 6
      all_goals
        go_enter Try.func45, Try.ntmps45
        go_wp2_with (fail)
        refine (key).mono ?_; rintro e w1 ⟨rfl, hb1⟩
        go_wp2_with (first | (go_at_call 63; refine (within_any _ _ _ _).mono ?_; rintro e w' ⟨rfl, rfl⟩) | (go_at_call 52; refine (unless_any _ _ _).mono ?_; rintro e w' ⟨rfl, rfl⟩))
        go_ret
        exact ⟨rfl, hb1⟩

set_option maxHeartbeats 800000 in
theorem l01Set_any (fs : List (List Int)) (A : Option Addr) (c : Nat) (w : World) (hs : SlF w A fs) :
    Calls Try.prog 79 #[.slice A fs.length c] w fun e w' => e = .returned (.int .i64 (setC fs)) ∧ w = w' := by
  have hbig := hs.1
  have hC := As.mk (show setC fs = if vfs fs then (if 40 < fs.length then 3 else 0) else 1 from rfl)
  have hv := @vfs_at fs
  generalize hn : fs.length = n at *
  have HN := As.mk hn
  clear hn
  go_enter Try.func79, Try.ntmps79
  go_wp2
  go_loop [3] (fun i => ∃ k : Nat, k ≤ n ∧ i = .int .i64 k ∧ As (∀ j, j < k → vf (nthF fs j) = true)) (fun i => n - (intOf i).toNat)
  case atStart => exact ⟨0, by omega, rfl, ⟨fun j hj => by omega⟩⟩
  case round =>
    obtain ⟨k, hk, rfl, H⟩ := hrel
    by_cases hlt : k < n
    · have hlt' : (k : Int) < (n : Int) := by omega
      obtain ⟨b, o, rfl, hr⟩ := hs.2.2.2 (by rw [HN.out]; omega)
      have R := hr k _ (nthF_get? fs k (by rw [HN.out]; exact hlt))
      have hk24 := hs.len k (by rw [HN.out]; exact hlt)
      cases hq : vf (nthF fs k)
      · have hb : vfs fs = false := by
          cases h : vfs fs with
          | false => rfl
          | true => have := hv h k hlt; rw [hq] at this; cases this
        go_wp2_with (go_at_call 95; refine (l01Ok_any _ hk24 _ _ _ R).mono ?_; rintro e w' ⟨rfl, rfl⟩)
        go_ret
        exact ⟨ret_n (by rw [hC.out, hb]; rfl), rfl⟩
      · go_wp2_with (go_at_call 95; refine (l01Ok_any _ hk24 _ _ _ R).mono ?_; rintro e w' ⟨rfl, rfl⟩)
        go_round
        case rel => exact ⟨k + 1, by omega, by go_num, ⟨all_succ H.out hq⟩⟩
        case measure => simp [intOf]; omega
    · obtain rfl : k = n := by omega
      have hb : vfs fs = true := by
        unfold vfs; rw [List.all_eq_true]
        intro f hf
        obtain ⟨i, hi, rfl⟩ := List.mem_iff_getElem.1 hf
        have := H.out i (by rw [← HN.out]; exact hi)
        simpa [nthF, List.getElem?_eq_getElem hi] using this
      by_cases h2 : 40 < k
      · have h2' : (40 : Int) < (k : Int) := by omega
        go_wp2
        go_ret
        exact ⟨ret_n (by rw [hC.out, hb, if_pos rfl, if_pos h2]), rfl⟩
      · have h2' : (k : Int) ≤ 40 := by omega
        go_wp2
        go_ret
        exact ⟨ret_n (by rw [hC.out, hb, if_pos rfl, if_neg h2]), rfl⟩

theorem l01Asked_any (fs : List (List Int)) (A : Option Addr) (c : Nat) (n : Int) (w : World) (hs : SlF w A fs) :
    Calls Try.prog 42 #[.slice A fs.length c, .int .i64 n] w fun e w' => e = .returned (.int .i64 (askC fs n)) ∧ w = w' := by
  have key := fun W h => l01Set_any fs A c W h
  have hC : askC fs n = if setC fs = 0 then (if inR n 0 6 then 0 else 2) else setC fs := rfl
  rw [hC]
  generalize setC fs = sc at *
  clear hC
  by_cases h0 : sc = 0
  · subst h0
    cases h1 : inR n 0 6
    all_goals
      go_enter Try.func42, Try.ntmps42
      go_wp2_with (first | (go_at_call 79; refine (key _ hs).mono ?_; rintro e w' ⟨rfl, rfl⟩) | (go_at_call 66; refine (l00In_any _ _ _ _).mono ?_; rintro e w' ⟨rfl, rfl⟩))
      go_ret
      exact ⟨rfl, rfl⟩
  · have h0' : (sc == 0) = false := by simp [h0]
    rw [if_neg h0]
    go_enter Try.func42, Try.ntmps42
    go_wp2_with (first | (go_at_call 79; refine (key _ hs).mono ?_; rintro e w' ⟨rfl, rfl⟩) | (go_at_call 66; refine (l00In_any _ _ _ _).mono ?_; rintro e w' ⟨rfl, rfl⟩))
    go_ret
    exact ⟨rfl, rfl⟩
end Go.Proofs.Ytjppoejkfpeicaa
