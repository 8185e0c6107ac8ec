/-
  The mutex in memory; contracts of none, may, has, Owner, Waits' reading. Condition: at most 256 threads wait.
-/
import Derived.Test.YtidnkienkdlmkaaIntsB
namespace Go.Proofs.Ytidnkienkdlmkaa
open Go.RowKit Go.Sh

def BoxI (o : Option Addr) (own : Option Int) (L : List (Nat × Obj)) : Prop :=
  (o = none ∧ own = none ∧ L = []) ∨ ∃ b x, o = some ⟨b, 0, none⟩ ∧ own = some x ∧ L = [(b, .cells #[.int .i64 x] 3 (0, 0))]

/-- The mutex in block b: who has it, who waits; L: the blocks that it takes. -/
def Mx (b : Nat) (own : Option Int) (ws : List Int) (L : List (Nat × Obj)) : Prop :=
  ∃ o v Lo Lv, L = (b, .cells #[.bool true, .pointer o, v] 48 (0, 0)) :: (Lo ++ Lv) ∧ BoxI o own Lo ∧ Sl 3 1 I v ws Lv ∧ ws.length ≤ 256


theorem Sl_rd {α : Type} {e : TypeId} {k : Nat} {enc : α → List Value} {v : Value} {xs : List α} {L : List (Nat × Obj)} {w : World} (h : Sl e k enc v xs L) (hg : ∀ p ∈ L, w.heap[p.1]? = some p.2) : Rd w enc v xs := by
  rcases h with ⟨rfl, rfl, rfl⟩ | ⟨g, off, cap, cur, rfl, rfl, h1, h2, h3, h4⟩
  · exact .inl ⟨rfl, none, 0, rfl⟩
  · refine .inr ⟨g, off, cap, rfl, fun j u hu => ?_⟩
    rw [cell_of_get (hg _ (List.mem_cons_self))]
    rw [← h4, List.getElem?_take] at hu
    split at hu
    · simpa using hu
    · cases hu

def mayR (ws : List Int) (who : Int) : Int := if who < 0 then 1 else if 65536 ≤ who then 1 else if ws.contains who then 1 else 0

theorem none_nil (w : World) : Calls Try.prog 63 #[.pointer none] w fun e w' => e = .returned (.bool true) ∧ w = w' := by
  go_enter Try.func63, Try.ntmps63
  go_wp2
  go_ret
  exact ⟨rfl, rfl⟩

theorem none_at (b : Nat) (m : Bool) (w : World) (h : w.cell? ⟨b, 0, none⟩ = some (.bool m)) : Calls Try.prog 63 #[.pointer (some ⟨b, 0, none⟩)] w fun e w' => e = .returned (.bool (!m)) ∧ w = w' := by
  go_enter Try.func63, Try.ntmps63
  go_wp2
  go_ret
  exact ⟨rfl, rfl⟩

theorem may_none (p : Option Addr) (who : Int) (w : World) (h : Calls Try.prog 63 #[.pointer p] w fun e w' => e = .returned (.bool true) ∧ w = w') :
    Calls Try.prog 61 #[.pointer p, .int .i64 who] w fun e w' => e = .returned (.int .i64 2) ∧ w = w' := by
  have H := Lib.hid h
  clear h
  go_enter Try.func61, Try.ntmps61
  go_wp2_with (go_at_call 63; refine H.out.mono ?_; rintro e w' ⟨rfl, rfl⟩)
  go_ret
  exact ⟨rfl, rfl⟩

theorem may_any (b : Nat) (own : Option Int) (ws : List Int) (L : List (Nat × Obj)) (who : Int) (w : World) (hM : Mx b own ws L) (hg : ∀ p ∈ L, w.heap[p.1]? = some p.2) :
    Calls Try.prog 61 #[.pointer (some ⟨b, 0, none⟩), .int .i64 who] w fun e w' => e = .returned (.int .i64 (mayR ws who)) ∧ w = w' := by
  obtain ⟨o, v, Lo, Lv, rfl, hb, hs, hl⟩ := hM
  have hh := hg _ (List.mem_cons_self)
  have hc0 : w.cell? ⟨b, 0, none⟩ = some (.bool true) := cell_of_get hh 0
  have hc2 : w.cell? ⟨b, 2, none⟩ = some v := cell_of_get hh 2
  have hr := Lib.hid (Sl_rd (w := w) hs (fun p hp => hg p (by simp [hp])))
  clear hh hg hs hb
  by_cases h1 : who < 0
  · have HR := Lib.hid (show mayR ws who = 1 by simp [mayR, h1])
    go_enter Try.func61, Try.ntmps61
    go_wp2_with (first | (go_at_call 63; refine (none_at b true _ hc0).mono ?_; rintro e w' ⟨rfl, rfl⟩))
    go_ret
    exact ⟨by rw [HR.out]; rfl, rfl⟩
  · by_cases h2 : 65536 ≤ who
    · have HR := Lib.hid (show mayR ws who = 1 by simp [mayR, h2])
      go_enter Try.func61, Try.ntmps61
      go_wp2_with (first | (go_at_call 63; refine (none_at b true _ hc0).mono ?_; rintro e w' ⟨rfl, rfl⟩))
      go_ret
      exact ⟨by rw [HR.out]; rfl, rfl⟩
    · cases h3 : ws.contains who with
      | true =>
        have HR := Lib.hid (show mayR ws who = 1 by unfold mayR; rw [if_neg h1, if_neg h2, h3]; rfl)
        have H3 := Lib.hid h3
        clear h3
        go_enter Try.func61, Try.ntmps61
        go_wp2_with (first | (go_at_call 63; refine (none_at b true _ hc0).mono ?_; rintro e w' ⟨rfl, rfl⟩) | (go_at_call 23; refine (contains_any ws who v _ (by omega) hr.out).mono ?_; rintro e w' ⟨rfl, rfl⟩; rw [H3.out]))
        go_ret
        exact ⟨by rw [HR.out]; rfl, rfl⟩
      | false =>
        have HR := Lib.hid (show mayR ws who = 0 by unfold mayR; rw [if_neg h1, if_neg h2, h3]; rfl)
        have H3 := Lib.hid h3
        clear h3
        go_enter Try.func61, Try.ntmps61
        go_wp2_with (first | (go_at_call 63; refine (none_at b true _ hc0).mono ?_; rintro e w' ⟨rfl, rfl⟩) | (go_at_call 23; refine (contains_any ws who v _ (by omega) hr.out).mono ?_; rintro e w' ⟨rfl, rfl⟩; rw [H3.out]))
        go_ret
        exact ⟨by rw [HR.out]; rfl, rfl⟩

end Go.Proofs.Ytidnkienkdlmkaa
