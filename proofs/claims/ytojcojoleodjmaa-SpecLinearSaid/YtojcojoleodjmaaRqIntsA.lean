/-
  Contracts of slices.Index, slices.Contains at []int, over a slice that is read. Condition: the length fits an int.
-/
import Derived.Test.YtojcojoleodjmaaChecked
import Derived.Test.YtojcojoleodjmaaArg
namespace Go.Proofs.Ytojcojoleodjmaa
open Go.RowKit Go.Sh

abbrev I (x : Int) : List Value := [.int .i64 x]

theorem flatI (xs : List Int) : xs.flatMap I = xs.map (Value.int .i64) := by
  induction xs with
  | nil => rfl
  | cons x xs ih => simp only [List.flatMap_cons, List.map_cons, ih]; rfl

/-- Where x is in xs. -/
def idx (xs : List Int) (x : Int) : Int := match xs.findIdx? (· == x) with | some i => (i : Int) | none => -1

theorem idx_at {xs : List Int} {x : Int} {k : Nat} (hk : k < xs.length) (h : (x == xs[k]) = true) (hn : ∀ j, j < k → xs[j]?.getD 0 ≠ x) : idx xs x = k := by
  unfold idx
  have : xs.findIdx? (· == x) = some k := by
    rw [List.findIdx?_eq_some_iff_getElem]
    refine ⟨hk, ?_, fun j hj => ?_⟩
    · simp at h; simp [h]
    · have := hn j hj
      simp [List.getElem?_eq_getElem (show j < xs.length by omega)] at this; simp [this]
  rw [this]

theorem idx_none {xs : List Int} {x : Int} (hn : ∀ j, j < xs.length → xs[j]?.getD 0 ≠ x) : idx xs x = -1 := by
  unfold idx
  have : xs.findIdx? (· == x) = none := by
    rw [List.findIdx?_eq_none_iff]
    intro y hy
    obtain ⟨j, hj, rfl⟩ := List.mem_iff_getElem.1 hy
    have := hn j hj
    simp [List.getElem?_eq_getElem hj] at this; simp [this]
  rw [this]

set_option maxHeartbeats 400000 in
theorem index_any (xs : List Int) (x : Int) (v : Value) (w : World) (hm : xs.length ≤ 9223372036854775807) (hr : Rd w I v xs) :
    Calls Try.prog 50 #[v, .int .i64 x] w fun e w' => e = .returned (.int .i64 (idx xs x)) ∧ w = w' := by
  rcases hr with ⟨rfl, ao, cap, rfl⟩ | ⟨g, off, cap, rfl, hc⟩
  · go_enter Try.func50, Try.ntmps50
    go_wp2
    refine wp_loop_rounds 1 ?_
    rw [rounds_succ]
    go_wp2
    go_ret
    exact ⟨rfl, rfl⟩
  · have hc' : ∀ j, j < xs.length → w.cell? ⟨g, off + j, none⟩ = some (.int .i64 (xs[j]?.getD 0)) := fun j hj => hc j _ (by rw [flatI]; simp [List.getElem?_eq_getElem hj])
    have HC := Lib.hid hc'
    clear hc hc'
    go_enter Try.func50, Try.ntmps50
    go_wp2
    go_loop [5, 8] (fun _ i => ∃ k : Nat, k ≤ xs.length ∧ i = .int .i64 k ∧ ∀ j, j < k → xs[j]?.getD 0 ≠ x) (fun _ i => xs.length - (intOf i).toNat)
    case atStart => exact ⟨0, Nat.zero_le _, rfl, fun _ h => by omega⟩
    case round =>
      obtain ⟨k, hk, rfl, hn⟩ := hrel
      have HN := Lib.hid hn
      clear hn
      by_cases hlt : k < xs.length
      · have hcell := HC.out k hlt
        go_wp2
        · have h : (x == xs[k]) = true := by assumption
          go_ret
          exact ⟨by rw [idx_at hlt h HN.out]; rfl, rfl⟩
        · have h : (x == xs[k]) = false := by assumption
          go_round
          case rel => exact ⟨k + 1, by omega, by go_num, fun j hj => by
            rcases Nat.lt_succ_iff_lt_or_eq.1 hj with h' | rfl
            · exact HN.out j h'
            · intro e; rw [List.getElem?_eq_getElem hlt] at e; simp at e; rw [e] at h; simp at h⟩
          case measure => simp [intOf]; omega
      · go_wp2
        go_ret
        exact ⟨by rw [idx_none (fun j hj => HN.out j (by omega))]; rfl, rfl⟩

theorem idx_cases (ws : List Int) (who : Int) : idx ws who = -1 ∨ ∃ i : Nat, i < ws.length ∧ idx ws who = i := by
  unfold idx
  cases h : ws.findIdx? (· == who) with
  | none => exact .inl rfl
  | some i =>
    rw [List.findIdx?_eq_some_iff_getElem] at h
    exact .inr ⟨i, h.1, rfl⟩

theorem idx_ge (xs : List Int) (x : Int) : decide (0 ≤ idx xs x) = xs.contains x := by
  unfold idx
  cases h : xs.findIdx? (· == x) with
  | some i =>
    rw [List.findIdx?_eq_some_iff_getElem] at h
    obtain ⟨hi, he, _⟩ := h
    have : xs.contains x = true := by rw [List.contains_iff_mem]; exact List.mem_iff_getElem.2 ⟨i, hi, by simpa using he⟩
    rw [this]; simp
  | none =>
    rw [List.findIdx?_eq_none_iff] at h
    have : xs.contains x = false := by
      rw [Bool.eq_false_iff]
      intro hc
      have := h x (List.contains_iff_mem.1 hc)
      simp at this
    rw [this]; simp

set_option maxHeartbeats 400000 in
theorem contains_any (xs : List Int) (x : Int) (v : Value) (w : World) (hm : xs.length ≤ 9223372036854775807) (hr : Rd w I v xs) :
    Calls Try.prog 19 #[v, .int .i64 x] w fun e w' => e = .returned (.bool (xs.contains x)) ∧ w = w' := by
  have hg := idx_ge xs x
  generalize hb : xs.contains x = b at hg ⊢
  clear hb
  have HG := Lib.hid hg
  clear hg
  go_enter Try.func19, Try.ntmps19
  go_wp2_with (go_at_call 50; refine (index_any xs x _ _ hm hr).mono ?_; rintro e w' ⟨rfl, rfl⟩)
  go_ret
  exact ⟨by rw [← HG.out]; rfl, rfl⟩

end Go.Proofs.Ytojcojoleodjmaa
