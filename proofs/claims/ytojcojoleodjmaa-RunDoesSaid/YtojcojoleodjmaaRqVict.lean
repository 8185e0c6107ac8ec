/-
  Contract of victim. Conditions: 1 to 16 workers, at most 1,024 threads in a queue.
-/
import Derived.Test.YtojcojoleodjmaaRqPush
import Derived.WalkMore
namespace Go.Proofs.Ytojcojoleodjmaa
open Go.RowKit Go.Sh

/-- Whose queue is stolen from, as far as worker + i has been looked at. -/
def vstep (ls : Nat → List Int) (k : Nat) (best : Option Nat) : Option Nat :=
  if (ls k).length = 0 then best else match best with
  | some b => if (ls k).length ≤ (ls b).length then some b else some k
  | none => some k

def vupto (ls : Nat → List Int) (n worker : Nat) : Nat → Option Nat
  | 0 => none
  | m + 1 => vstep ls ((worker + (m + 1)) % n) (vupto ls n worker m)

def victimQ (n : Nat) (ls : Nat → List Int) (worker : Nat) : Option Nat := vupto ls n worker (n - 1)

def encB (o : Option Nat) : Int := match o with | some b => b | none => -1

theorem vupto_some {ls : Nat → List Int} {n worker : Nat} (hw : worker < n) : ∀ {m b : Nat}, m < n → vupto ls n worker m = some b → b < n ∧ 0 < (ls b).length ∧ b ≠ worker
  | 0, b, _, h => by simp [vupto] at h
  | m + 1, b, hm, h => by
    have hne : (worker + (m + 1)) % n ≠ worker := by
      rcases Nat.lt_or_ge (worker + (m + 1)) n with h1 | h1
      · rw [Nat.mod_eq_of_lt h1]; omega
      · rw [Nat.mod_eq_sub_mod h1, Nat.mod_eq_of_lt (by omega)]; omega
    have hlt : (worker + (m + 1)) % n < n := Nat.mod_lt _ (by omega)
    have ih := @vupto_some ls n worker hw m
    rw [vupto, vstep.eq_def] at h
    cases hv : vupto ls n worker m with
    | none =>
      rw [hv] at h
      split at h
      · cases h
      · simp only [Option.some.injEq] at h; subst h; exact ⟨hlt, by omega, hne⟩
    | some b' =>
      rw [hv] at h
      split at h
      · simp only [Option.some.injEq] at h; subst h; exact ih (by omega) hv
      · dsimp only at h
        split at h
        · simp only [Option.some.injEq] at h; subst h; exact ih (by omega) hv
        · simp only [Option.some.injEq] at h; subst h; exact ⟨hlt, by omega, hne⟩

theorem vupto_none {ls : Nat → List Int} {n worker : Nat} : ∀ {m : Nat}, vupto ls n worker m = none → ∀ i, 1 ≤ i → i ≤ m → ls ((worker + i) % n) = []
  | 0, _, i, h1, h2 => by omega
  | m + 1, h, i, h1, h2 => by
    rw [vupto, vstep.eq_def] at h
    have hv : vupto ls n worker m = none ∧ (ls ((worker + (m + 1)) % n)).length = 0 := by
      cases hv : vupto ls n worker m with
      | none =>
        rw [hv] at h
        split at h
        · exact ⟨rfl, by assumption⟩
        · cases h
      | some b =>
        rw [hv] at h
        split at h
        · cases h
        · dsimp only at h
          split at h <;> cases h
    rcases Nat.lt_or_ge i (m + 1) with h3 | h3
    · exact vupto_none hv.1 i h1 (by omega)
    · obtain rfl : i = m + 1 := by omega
      exact List.length_eq_zero_iff.1 hv.2

theorem victimQ_none {ls : Nat → List Int} {n worker : Nat} (hw : worker < n) (h : victimQ n ls worker = none) : ∀ k, k < n → k ≠ worker → ls k = [] := by
  intro k hk hne
  rcases Nat.lt_or_ge worker k with h1 | h1
  · have := vupto_none h (k - worker) (by omega) (by omega)
    rwa [show worker + (k - worker) = k by omega, Nat.mod_eq_of_lt hk] at this
  · have := vupto_none h (n + k - worker) (by omega) (by omega)
    rwa [show worker + (n + k - worker) = n + k by omega, Nat.add_mod_left, Nat.mod_eq_of_lt hk] at this

theorem victimQ_some {ls : Nat → List Int} {n worker b : Nat} (hw : worker < n) (h : victimQ n ls worker = some b) : b < n ∧ 0 < (ls b).length ∧ b ≠ worker := vupto_some hw (by omega) h

def VictRel (ls : Nat → List Int) (n worker : Nat) (w : World) (best i : Value) (wr : World) : Prop :=
  ∃ m q : Nat, m < n ∧ i = .int .i64 ((m : Int) + 1) ∧ best = .int .i64 (encB (vupto ls n worker m)) ∧ wr = w.drewN q

set_option maxRecDepth 100000 in
set_option maxHeartbeats 400000 in
theorem victim_q (b n : Nat) (vs : Nat → Value) (Ls : Nat → List (Nat × Obj)) (ls : Nat → List Int) (st : Int) (k : Nat) (w : World) (hk : k < n) (hQ : Qs vs Ls n ls) (hb : w.heap[b]? = some (qobj n vs st)) :
    Calls Try.prog 73 #[.pointer (some ⟨b, 0, none⟩), .int .i64 k] w fun e w' => e = .returned (.int .i64 (encB (victimQ n ls k))) ∧ ∃ q, w' = w.drewN q := by
  have hc : w.cell? ⟨b, 0, none⟩ = some (.int .i64 n) := cell_of_get hb 0
  have hck := Lib.hid (show ∀ k, k < 16 → ∃ ao cap, w.cell? ⟨b, 1 + k, none⟩ = some (.slice ao (ls k).length cap) from fun k hk => by
    obtain ⟨ao, cap, hv, _, _⟩ := (hQ.sl k hk).form
    exact ⟨ao, cap, by rw [cell_of_get hb (1 + k), qcells_k n vs st hk, hv]⟩)
  have hpos := hQ.pos
  have hn := hQ.top
  have hlt := lt_of_get hb
  clear hb hQ
  go_enter Try.func73, Try.ntmps73
  go_wp2
  go_step3
  go_wp2
  go_step3
  go_wp2
  go_loopw [5, 6] (fun best i wr => VictRel ls n k w best i wr) (fun _ i _ => n - (intOf i).toNat)
  case atStart => exact ⟨0, 0, by omega, rfl, rfl, rfl⟩
  case round =>
    obtain ⟨m, q, hm, rfl, rfl, rfl⟩ := hrel
    by_cases hlt2 : m + 1 < n
    · obtain ⟨j, hj⟩ : ∃ j, j = (k + (m + 1)) % n := ⟨_, rfl⟩
      have hjn : j < n := by rw [hj]; exact Nat.mod_lt _ (by omega)
      have hj16 : (j : Int) < 16 := by omega
      have hmod : ((k : Int) + ((m : Int) + 1)) % (n : Int) = (j : Int) := by rw [hj]; push_cast; rfl
      have hstep := Lib.hid (show vupto ls n k (m + 1) = vstep ls j (vupto ls n k m) by rw [hj]; rfl)
      clear hj
      obtain ⟨ao, cap, hcj⟩ := hck.out j (by omega)
      by_cases hz : (ls j).length = 0
      · have hn2 := Lib.hid (show vupto ls n k (m + 1) = vupto ls n k m by rw [hstep.out, vstep.eq_def, if_pos hz])
        have hz' : (((ls j).length : Int) == 0) = true := by simp [hz]
        clear hz hstep
        go_wp2
        go_roundw
        case rel => exact ⟨m + 1, q, by omega, by go_num, by rw [hn2.out], rfl⟩
        case measure => simp [intOf]; omega
      · have hz' : (((ls j).length : Int) == 0) = false := by simpa using hz
        cases hv : vupto ls n k m with
        | none =>
          have hn2 := Lib.hid (show vupto ls n k (m + 1) = some j by rw [hstep.out, hv, vstep.eq_def, if_neg hz])
          clear hv hstep hz
          have hd : decide ((0 : Int) ≤ -1) = false := by decide
          unfold encB
          go_wp2
          go_quiet (fail)
          go_wp2
          go_roundw
          case rel => exact ⟨m + 1, _, by omega, by go_num, by rw [hn2.out]; first | rfl | (show _ = Value.int .i64 (j : Int); rw [← hmod]), rfl⟩
          case measure => simp [intOf]; omega
        | some b' =>
          obtain ⟨hb1, hb2, hb3⟩ := vupto_some hk hm hv
          obtain ⟨ao2, cap2, hcb⟩ := hck.out b' (by omega)
          have hb16 : (b' : Int) < 16 := by omega
          have hd : decide ((0 : Int) ≤ (b' : Int)) = true := by simp
          by_cases hle : (ls j).length ≤ (ls b').length
          · have hn2 := Lib.hid (show vupto ls n k (m + 1) = some b' by rw [hstep.out, hv, vstep.eq_def, if_neg hz]; dsimp only; rw [if_pos hle])
            have hle' : ((ls j).length : Int) ≤ (ls b').length := by omega
            clear hv hstep hz hle hb2 hb3
            unfold encB
            go_wp2
            go_quiet (fail)
            go_wp2
            go_roundw
            case rel => exact ⟨m + 1, _, by omega, by go_num, by rw [hn2.out]; first | rfl | (show _ = Value.int .i64 (j : Int); rw [← hmod]), rfl⟩
            case measure => simp [intOf]; omega
          · have hn2 := Lib.hid (show vupto ls n k (m + 1) = some j by rw [hstep.out, hv, vstep.eq_def, if_neg hz]; dsimp only; rw [if_neg hle])
            have hle' : ¬ ((ls j).length : Int) ≤ (ls b').length := by omega
            clear hv hstep hz hle hb2 hb3
            unfold encB
            go_wp2
            go_quiet (fail)
            go_wp2
            go_roundw
            case rel => exact ⟨m + 1, _, by omega, by go_num, by rw [hn2.out]; first | rfl | (show _ = Value.int .i64 (j : Int); rw [← hmod]), rfl⟩
            case measure => simp [intOf]; omega
    · obtain rfl : m = n - 1 := by omega
      go_wp2
      rw [Exit.noGoto_ret]
      go_wp2
      go_ret
      exact ⟨rfl, q, rfl⟩

end Go.Proofs.Ytojcojoleodjmaa
