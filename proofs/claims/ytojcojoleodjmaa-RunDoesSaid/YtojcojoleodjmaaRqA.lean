/-
  Queues (runq.Queues) in memory; contracts of none, may, find. Conditions: 1 to 16 workers, at most 1,024 threads in a queue.
-/
import Derived.Test.YtojcojoleodjmaaRqDel
import Derived.Test.YtojcojoleodjmaaFam
namespace Go.Proofs.Ytojcojoleodjmaa
open Go.RowKit Go.Sh

theorem Sl_rd {α : Type} {e : TypeId} {k : Nat} {enc : α → List Value} {v : Value} {xs : List α} {L : List (Nat × Obj)} {w : World} (h : Sl e k enc v xs L) (hg : ∀ p ∈ L, w.heap[p.1]? = some p.2) : Rd w enc v xs := by
  rcases h with ⟨rfl, rfl, rfl⟩ | ⟨g, off, cap, cur, rfl, rfl, h1, h2, h3, h4⟩
  · exact .inl ⟨rfl, none, 0, rfl⟩
  · refine .inr ⟨g, off, cap, rfl, fun j u hu => ?_⟩
    rw [cell_of_get (hg _ (List.mem_cons_self))]
    rw [← h4, List.getElem?_take] at hu
    split at hu
    · simpa using hu
    · cases hu

/-- The cells of a Queues. -/
def qcells (n : Nat) (vs : Nat → Value) (st : Int) : Array Value := (Value.int .i64 n :: ((List.range 16).map vs ++ [Value.int .i64 st])).toArray

theorem qcells_0 (n : Nat) (vs : Nat → Value) (st : Int) : (qcells n vs st)[0]? = some (.int .i64 n) := rfl
theorem qcells_17 (n : Nat) (vs : Nat → Value) (st : Int) : (qcells n vs st)[17]? = some (.int .i64 st) := rfl
theorem qcells_k (n : Nat) (vs : Nat → Value) (st : Int) {k : Nat} (h : k < 16) : (qcells n vs st)[1 + k]? = some (vs k) := by
  unfold qcells
  rw [List.getElem?_toArray, Nat.add_comm, List.getElem?_cons_succ, List.getElem?_append_left (by simpa using h)]
  simp [h]
theorem qcells_set (n : Nat) (vs : Nat → Value) (st : Int) {k : Nat} (h : k < 16) (v : Value) : (qcells n vs st).setIfInBounds (1 + k) v = qcells n (upd vs k v) st := by
  obtain rfl | rfl | rfl | rfl | rfl | rfl | rfl | rfl | rfl | rfl | rfl | rfl | rfl | rfl | rfl | rfl : k = 0 ∨ k = 1 ∨ k = 2 ∨ k = 3 ∨ k = 4 ∨ k = 5 ∨ k = 6 ∨ k = 7 ∨ k = 8 ∨ k = 9 ∨ k = 10 ∨ k = 11 ∨ k = 12 ∨ k = 13 ∨ k = 14 ∨ k = 15 := by omega
  all_goals rfl
theorem qcells_st (n : Nat) (vs : Nat → Value) (st st' : Int) : (qcells n vs st).setIfInBounds 17 (.int .i64 st') = qcells n vs st' := rfl

abbrev qobj (n : Nat) (vs : Nat → Value) (st : Int) : Obj := Obj.cells (qcells n vs st) 50 (0, 0)

/-- The Queues at block b: n workers, the queues ls, st stolen. -/
structure Qs (vs : Nat → Value) (Ls : Nat → List (Nat × Obj)) (n : Nat) (ls : Nat → List Int) : Prop where
  pos : 1 ≤ n
  top : n ≤ 16
  sl : ∀ i, i < 16 → Sl 3 1 I (vs i) (ls i) (Ls i)
  len : ∀ i, i < 16 → (ls i).length ≤ 1024

/-- What is owned of it. -/
def qown (b n : Nat) (vs : Nat → Value) (Ls : Nat → List (Nat × Obj)) (st : Int) : List (Nat × Obj) := (b, qobj n vs st) :: (List.range 16).flatMap Ls

def Qx (b n : Nat) (ls : Nat → List Int) (st : Int) (L : List (Nat × Obj)) : Prop := ∃ vs Ls, Qs vs Ls n ls ∧ L = qown b n vs Ls st

theorem Qs.rd {vs Ls n ls} (h : Qs vs Ls n ls) {k : Nat} (hk : k < 16) {w : World} {b st} (hL : ∀ p ∈ qown b n vs Ls st, w.heap[p.1]? = some p.2) : Rd w I (vs k) (ls k) :=
  Sl_rd (h.sl k hk) (fun p hp => hL p (List.mem_cons_of_mem _ (mem_fam hk hp)))

theorem Qs.set {vs Ls n ls} (h : Qs vs Ls n ls) {k : Nat} {v : Value} {xs : List Int} {L : List (Nat × Obj)} (hS : Sl 3 1 I v xs L) (hx : xs.length ≤ 1024) : Qs (upd vs k v) (upd Ls k L) n (upd ls k xs) :=
  ⟨h.pos, h.top, fun i hi => by by_cases e : i = k <;> simp [upd, e, hS, h.sl i hi], fun i hi => by by_cases e : i = k <;> simp [upd, e, hx, h.len i hi]⟩

theorem none_q (b n : Nat) (vs : Nat → Value) (st : Int) (w : World) (hb : w.heap[b]? = some (qobj n vs st)) (hn : 1 ≤ n) : Calls Try.prog 49 #[.pointer (some ⟨b, 0, none⟩)] w fun e w' => e = .returned (.bool false) ∧ w = w' := by
  have hc : w.cell? ⟨b, 0, none⟩ = some (.int .i64 n) := cell_of_get hb 0
  have hn' : ((n : Int) == 0) = false := by simp; omega
  go_enter Try.func49, Try.ntmps49
  go_wp2
  go_ret
  exact ⟨rfl, rfl⟩

/-- May this worker be. -/
def mayQ (n : Nat) (worker : Int) : Int := if worker < 0 ∨ (n : Int) ≤ worker then 1 else 0

theorem may_q (b n : Nat) (vs : Nat → Value) (st worker : Int) (w : World) (hb : w.heap[b]? = some (qobj n vs st)) (hn : 1 ≤ n) :
    Calls Try.prog 45 #[.pointer (some ⟨b, 0, none⟩), .int .i64 worker] w fun e w' => e = .returned (.int .i64 (mayQ n worker)) ∧ w = w' := by
  have hc : w.cell? ⟨b, 0, none⟩ = some (.int .i64 n) := cell_of_get hb 0
  have HB := Lib.hid hb
  clear hb
  by_cases h1 : worker < 0
  · have HR := Lib.hid (show mayQ n worker = 1 by simp [mayQ, h1])
    go_enter Try.func45, Try.ntmps45
    go_wp2_with (go_at_call 49; refine (none_q b n vs st _ HB.out hn).mono ?_; rintro e w' ⟨rfl, rfl⟩)
    go_ret
    exact ⟨by rw [HR.out]; rfl, rfl⟩
  · by_cases h2 : (n : Int) ≤ worker
    · have HR := Lib.hid (show mayQ n worker = 1 by simp [mayQ, h2])
      go_enter Try.func45, Try.ntmps45
      go_wp2_with (go_at_call 49; refine (none_q b n vs st _ HB.out hn).mono ?_; rintro e w' ⟨rfl, rfl⟩)
      go_ret
      exact ⟨by rw [HR.out]; rfl, rfl⟩
    · have HR := Lib.hid (show mayQ n worker = 0 by simp [mayQ, h1, h2])
      go_enter Try.func45, Try.ntmps45
      go_wp2_with (go_at_call 49; refine (none_q b n vs st _ HB.out hn).mono ?_; rintro e w' ⟨rfl, rfl⟩)
      go_ret
      exact ⟨by rw [HR.out]; rfl, rfl⟩

/-- The first queue in which a thread is. -/
def findQ (n : Nat) (ls : Nat → List Int) (who : Int) : Option Nat := (List.range n).find? fun k => (ls k).contains who

theorem findQ_at {n : Nat} {ls : Nat → List Int} {who : Int} {k : Nat} (hk : k < n) (h : (ls k).contains who = true) (hn : ∀ j, j < k → (ls j).contains who = false) : findQ n ls who = some k := by
  unfold findQ
  rw [List.find?_range_eq_some]
  exact ⟨h, List.mem_range.2 hk, fun j hj => by simpa using hn j hj⟩

theorem findQ_none {n : Nat} {ls : Nat → List Int} {who : Int} (hn : ∀ j, j < n → (ls j).contains who = false) : findQ n ls who = none := by
  unfold findQ
  rw [List.find?_eq_none]
  intro j hj
  simpa using hn j (List.mem_range.1 hj)

def findV (n : Nat) (ls : Nat → List Int) (who : Int) : Value := match findQ n ls who with
  | some k => .tuple #[.int .i64 k, .int .i64 (idx (ls k) who), .bool true]
  | none => .tuple #[.int .i64 0, .int .i64 0, .bool false]

set_option maxRecDepth 100000 in
set_option maxHeartbeats 1000000 in
theorem find_q (b n : Nat) (vs : Nat → Value) (Ls : Nat → List (Nat × Obj)) (ls : Nat → List Int) (st who : Int) (w : World) (hQ : Qs vs Ls n ls) (hL : ∀ p ∈ qown b n vs Ls st, w.heap[p.1]? = some p.2) :
    Calls Try.prog 46 #[.pointer (some ⟨b, 0, none⟩), .int .i64 who] w fun e w' => e = .returned (findV n ls who) ∧ w = w' := by
  have hb := hL (b, qobj n vs st) List.mem_cons_self
  have hc : w.cell? ⟨b, 0, none⟩ = some (.int .i64 n) := cell_of_get hb 0
  have hck := Lib.hid (show ∀ k, k < 16 → w.cell? ⟨b, 1 + k, none⟩ = some (vs k) from fun k hk => (cell_of_get hb (1 + k)).trans (qcells_k n vs st hk))
  have hrd := Lib.hid (show ∀ k, k < 16 → Rd w I (vs k) (ls k) from fun k hk => hQ.rd hk hL)
  have hn := hQ.top
  have HQ := Lib.hid hQ
  clear hL hb hQ
  go_enter Try.func46, Try.ntmps46
  go_wp2
  go_loop [7, 8, 13] (fun _ _ i => ∃ k : Nat, k ≤ n ∧ i = .int .i64 k ∧ ∀ j, j < k → (ls j).contains who = false) (fun _ _ i => n - (intOf i).toNat)
  case atStart => exact ⟨0, Nat.zero_le _, rfl, fun _ h => by omega⟩
  case round =>
    obtain ⟨k, hk, rfl, hno⟩ := hrel
    have HN := Lib.hid hno
    clear hno
    by_cases hlt : k < n
    · have hk16 : k < 16 := by omega
      have hcell := hck.out k hk16
      have hlen := HQ.out.len k hk16
      have hge := idx_ge (ls k) who
      rcases idx_cases (ls k) who with h1 | ⟨i, hi, h1⟩
      · have hcf : (ls k).contains who = false := by rw [← hge, h1]; rfl
        have H1 := Lib.hid h1
        have HC := Lib.hid hcf
        clear hge h1 hcf
        go_wp2_with (go_at_call 50; refine (index_any (ls k) who _ _ (by omega) (hrd.out k hk16)).mono ?_; rintro e w' ⟨rfl, rfl⟩; rw [H1.out])
        go_round
        case rel => exact ⟨k + 1, by omega, by go_num, fun j hj => by
          rcases Nat.lt_succ_iff_lt_or_eq.1 hj with h' | rfl
          · exact HN.out j h'
          · exact HC.out⟩
        case measure => simp [intOf]; omega
      · have hcf : (ls k).contains who = true := by rw [← hge, h1]; simp
        have HR := Lib.hid (show findV n ls who = .tuple #[.int .i64 k, .int .i64 i, .bool true] by unfold findV; rw [findQ_at hlt hcf HN.out]; simp only [h1])
        have H1 := Lib.hid h1
        clear hge h1 hcf
        go_wp2_with (go_at_call 50; refine (index_any (ls k) who _ _ (by omega) (hrd.out k hk16)).mono ?_; rintro e w' ⟨rfl, rfl⟩; rw [H1.out])
        refine bodyPost_ret (v := .tuple #[.int .i64 k, .int .i64 i, .bool true]) (by simp [results, Try.results46, go_sem]) rfl ⟨by rw [HR.out], rfl⟩
    · have HR := Lib.hid (show findV n ls who = .tuple #[.int .i64 0, .int .i64 0, .bool false] by unfold findV; rw [findQ_none (fun j hj => HN.out j (by omega))])
      go_wp2
      refine bodyPost_ret (v := .tuple #[.int .i64 0, .int .i64 0, .bool false]) (by simp [results, Try.results46, go_sem]) rfl ⟨by rw [HR.out], rfl⟩

end Go.Proofs.Ytojcojoleodjmaa
