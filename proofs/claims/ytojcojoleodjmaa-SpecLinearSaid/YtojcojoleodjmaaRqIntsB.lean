/-
  Contracts of slices.Clone, Equal at []int. Conditions: the lengths are small.
-/
import Derived.Test.YtojcojoleodjmaaRqIntsA
import Derived.Test.YtojcojoleodjmaaApp
import Derived.BigRegion
namespace Go.Proofs.Ytojcojoleodjmaa
open Go.RowKit Go.Sh

theorem Try.info3 : (Try.prog.info? 3).map (fun i => (i.zero, i.size, i.bytes)) = some (some (.int .i64 0), 1, 8) := by kernel_rfl

theorem cell_of_get {w : World} {b : Nat} {c : Array Value} {t : TypeId} {f : Nat × Nat} (h : w.heap[b]? = some (.cells c t f)) (i : Nat) : w.cell? ⟨b, i, none⟩ = c[i]? := by simp [World.cell?, h]
theorem free_of_get {w : World} {b : Nat} {c : Array Value} {t : TypeId} (h : w.heap[b]? = some (.cells c t (0, 0))) (i : Nat) : w.frozen? ⟨b, i, none⟩ = false := by simp [World.frozen?, h]

theorem I_len (x : Int) : (I x).length = 1 := rfl
theorem I_one (x : Int) : ∀ u ∈ I x, u.oneCell' = true := fun u h => by simp at h; subst h; rfl

/-- A new slice with the elements xs, beside what was owned. -/
def NewSl {α : Type} (e k : Nat) (enc : α → List Value) (B : Nat) (w0 : World) (F : List (Nat × Obj)) (xs : List α) (r : Ending) (w' : World) : Prop :=
  ∃ v L', r = .returned v ∧ Sl e k enc v xs L' ∧ Own B w0 w' (L' ++ F)

theorem clone52 (B : Nat) (w0 : World) (F : List (Nat × Obj)) (xs : List Int) (v : Value) (L : List (Nat × Obj)) (w : World) (hS : Sl 3 1 I v xs L) (hL : ∀ p ∈ L, p ∈ F) (hO : Own B w0 w F) (hx : xs.length ≤ 100000) :
    Calls Try.prog 52 #[v] w (NewSl 3 1 I B w0 F xs) := by
  obtain ⟨i0, hi, hz0, hz1, hz2⟩ := info_parts Try.info3
  obtain ⟨ao, cap, rfl, hcap, hcm⟩ := hS.form
  have HCM := Lib.hid hcm
  clear hcm
  have q : ∀ (w : World) (a : Option Addr) (n c n' c' : Nat), (binOp .eql 28 (.slice a n c) (.slice none n' c')).run Try.prog w = .ok (.bool a.isNone) w := fun w a n c n' c' => Lib.run_eql_slice_nil w _ _ a n c n' c' Try.underlying28
  cases ao with
  | none =>
    obtain ⟨rfl, rfl⟩ : xs = [] ∧ L = [] := by
      rcases hS with ⟨_, h1, h2⟩ | ⟨_, _, _, _, h, _⟩
      · exact ⟨h1, h2⟩
      · simp at h
    go_enter Try.func52, Try.ntmps52
    go_wp2
    go_ret
    exact ⟨_, [], rfl, Sl.nil, hO⟩
  | some a =>
    have hE : Sl 3 1 I (.slice (some ⟨w.heap.size, 0, none⟩) 0 0) ([] : List Int) [(w.heap.size, .cells #[] 3 (0, 0))] := .inr ⟨_, 0, 0, _, rfl, rfl, by simp, by simp, by simp, by simp⟩
    have hO2 := hO.alloc (.cells #[] 3)
    go_enter Try.func52, Try.ntmps52
    go_wp2_with (at_builtin; refine wpList_append_all rfl (.tmp 5) (.tmp 6) 28 rfl _ _ _ Try.underlying28 hi hz0 hz1 hz2 rfl I_len I_one rfl hE (F := F) hO2 _ rfl xs L hS hL ?h1 ?h2 ?h3)
    case h1 => simp [maxLen]; omega
    case h2 => simp; omega
    case h3 =>
      intro ao' cap' w1 L1 hS1 hO1 _
      go_wp2
      go_ret
      exact ⟨_, L1, rfl, by simpa using hS1, hO1⟩

/-- A bool, and a world that differs by draws alone. -/
def BoolD (B : Nat) (w0 : World) (F : List (Nat × Obj)) (b : Bool) (r : Ending) (w' : World) : Prop := r = .returned (.bool b) ∧ Own B w0 w' F

set_option maxRecDepth 100000 in
set_option maxHeartbeats 400000 in
theorem equal20 (B : Nat) (w0 : World) (F : List (Nat × Obj)) (xs ys : List Int) (v1 v2 : Value) (w : World) (h1 : Rd w I v1 xs) (h2 : Rd w I v2 ys) (hO : Own B w0 w F) (hx : xs.length ≤ 100000) (hy : ys.length ≤ 100000) :
    Calls Try.prog 20 #[v1, v2] w (BoolD B w0 F (decide (xs = ys))) := by
  obtain ⟨a1, c1, rfl, r1⟩ : ∃ ao cap, v1 = .slice ao xs.length cap ∧ ∀ j, j < xs.length → ∃ g off, ao = some ⟨g, off, none⟩ ∧ ∀ j, j < xs.length → w.cell? ⟨g, off + j, none⟩ = some (.int .i64 (xs[j]?.getD 0)) := by
    rcases h1 with ⟨rfl, ao, cap, rfl⟩ | ⟨g, off, cap, rfl, hc⟩
    · exact ⟨ao, cap, rfl, fun j hj => by simp at hj⟩
    · exact ⟨_, cap, rfl, fun _ _ => ⟨g, off, rfl, fun j hj => hc j _ (by rw [flatI]; simp [List.getElem?_eq_getElem hj])⟩⟩
  obtain ⟨a2, c2, rfl, r2⟩ : ∃ ao cap, v2 = .slice ao ys.length cap ∧ ∀ j, j < ys.length → ∃ g off, ao = some ⟨g, off, none⟩ ∧ ∀ j, j < ys.length → w.cell? ⟨g, off + j, none⟩ = some (.int .i64 (ys[j]?.getD 0)) := by
    rcases h2 with ⟨rfl, ao, cap, rfl⟩ | ⟨g, off, cap, rfl, hc⟩
    · exact ⟨ao, cap, rfl, fun j hj => by simp at hj⟩
    · exact ⟨_, cap, rfl, fun _ _ => ⟨g, off, rfl, fun j hj => hc j _ (by rw [flatI]; simp [List.getElem?_eq_getElem hj])⟩⟩
  clear h1 h2
  have R1 := Lib.hid r1
  have R2 := Lib.hid r2
  clear r1 r2
  by_cases hl : xs.length = ys.length
  · have HL := Lib.hid hl
    clear hl
    have hl1 : ((xs.length : Int) != (ys.length : Int)) = false := by rw [HL.out]; simp
    go_enter Try.func20, Try.ntmps20
    go_wp2
    go_loopw [5, 13] (fun _ i wr => ∃ k : Nat, k ≤ xs.length ∧ i = .int .i64 k ∧ (∀ j, j < k → xs[j]?.getD 0 = ys[j]?.getD 0) ∧ ∃ q, wr = w.drewN q) (fun _ i _ => xs.length - (intOf i).toNat)
    case atStart => exact ⟨0, Nat.zero_le _, rfl, fun _ h => by omega, 0, rfl⟩
    case round =>
      obtain ⟨k, hk, rfl, hn, q, rfl⟩ := hrel
      have HN := Lib.hid hn
      clear hn
      by_cases hlt : k < xs.length
      · obtain ⟨g1, o1, rfl, hc1⟩ := R1.out k hlt
        obtain ⟨g2, o2, rfl, hc2⟩ := R2.out k (by rw [← HL.out]; exact hlt)
        have e1 : w.cell? ⟨g1, o1 + k, none⟩ = some (.int .i64 (xs[k]?.getD 0)) := hc1 k hlt
        have hlt2 : k < ys.length := by rw [← HL.out]; exact hlt
        have e2 : w.cell? ⟨g2, o2 + k, none⟩ = some (.int .i64 (ys[k]?.getD 0)) := hc2 k hlt2
        clear hc1 hc2
        go_wp2
        go_region
        go_wp2
        · have h : (xs[k] != ys[k]) = true := by assumption
          go_ret
          refine ⟨?_, hO.drewN q |>.drew⟩
          have hf : decide (xs = ys) = false := decide_eq_false (fun e => by subst e; simp at h)
          rw [hf]; rfl
        · have h : (xs[k] != ys[k]) = false := by assumption
          go_roundw
          case rel => exact ⟨k + 1, by omega, by go_num, fun j hj => by
            rcases Nat.lt_succ_iff_lt_or_eq.1 hj with h' | rfl
            · exact HN.out j h'
            · simpa [List.getElem?_eq_getElem hlt, List.getElem?_eq_getElem hlt2] using h, q + 1, rfl⟩
          case measure => simp [intOf]; omega
      · go_wp2
        go_ret
        refine ⟨?_, hO.drewN q⟩
        have hf : decide (xs = ys) = true := decide_eq_true (by
          apply List.ext_getElem HL.out
          intro j h1 h2
          have := HN.out j (by omega)
          simpa [List.getElem?_eq_getElem h1, List.getElem?_eq_getElem h2] using this)
        rw [hf]; rfl
  · have hl1 : ((xs.length : Int) != (ys.length : Int)) = true := by simp; omega
    go_enter Try.func20, Try.ntmps20
    go_wp2
    go_ret
    refine ⟨?_, hO⟩
    have hf : decide (xs = ys) = false := decide_eq_false (fun e => hl (by rw [e]))
    rw [hf]; rfl

end Go.Proofs.Ytojcojoleodjmaa
