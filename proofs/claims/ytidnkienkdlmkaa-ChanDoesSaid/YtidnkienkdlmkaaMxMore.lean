/-
  Contracts of New, Owner, Waits, Drop, Clone. Condition: at most 256 threads wait.
-/
import Derived.Test.YtidnkienkdlmkaaMxUnlock
namespace Go.Proofs.Ytidnkienkdlmkaa
open Go.RowKit Go.Sh

theorem new15 (w : World) : Calls Try.prog 15 #[] w fun e w' => e = .returned (.pointer (some ⟨w.heap.size, 0, none⟩)) ∧ w' = w.alloc (.cells #[.bool true, .pointer none, .slice none 0 0] 48) := by
  go_enter Try.func15, Try.ntmps15
  go_wp2
  go_ret
  exact ⟨rfl, rfl⟩

theorem Mx.new (b : Nat) : Mx b none [] [(b, Obj.cells #[.bool true, .pointer none, .slice none 0 0] 48 (0, 0))] := ⟨none, _, [], [], rfl, .inl ⟨rfl, rfl, rfl⟩, Sl.nil, by simp⟩

def ownV (own : Option Int) : Value := .tuple #[.int .i64 (own.getD 0), .bool own.isSome]

set_option maxRecDepth 100000 in
theorem owner_any (b : Nat) (own : Option Int) (ws : List Int) (L : List (Nat × Obj)) (w : World) (hM : Mx b own ws L) (hg : ∀ p ∈ L, w.heap[p.1]? = some p.2) :
    Calls Try.prog 19 #[.pointer (some ⟨b, 0, none⟩)] w fun e w' => e = .returned (ownV own) ∧ w = w' := by
  obtain ⟨o, v, Lo, Lv, rfl, hb, hs, hl⟩ := hM
  have hh := hg _ (List.mem_cons_self)
  have hc0 : w.cell? ⟨b, 0, none⟩ = some (.bool true) := cell_of_get hh 0
  have hc1 : w.cell? ⟨b, 1, none⟩ = some (.pointer o) := cell_of_get hh 1
  rcases hb with ⟨rfl, rfl, rfl⟩ | ⟨bo, x, rfl, rfl, rfl⟩
  · clear hh hg hs
    go_enter Try.func19, Try.ntmps19
    go_wp2_with (first | (go_at_call 63; refine (none_at b true _ hc0).mono ?_; rintro e w' ⟨rfl, rfl⟩))
    go_ret2
    exact ⟨rfl, rfl⟩
  · have hcx : w.cell? ⟨bo, 0, none⟩ = some (.int .i64 x) := cell_of_get (hg (bo, .cells #[.int .i64 x] 3 (0, 0)) (by simp)) 0
    clear hh hg hs
    go_enter Try.func19, Try.ntmps19
    go_wp2_with (first | (go_at_call 63; refine (none_at b true _ hc0).mono ?_; rintro e w' ⟨rfl, rfl⟩))
    go_ret2
    exact ⟨rfl, rfl⟩

theorem owner_none (p : Option Addr) (w : World) (h : Calls Try.prog 63 #[.pointer p] w fun e w' => e = .returned (.bool true) ∧ w = w') :
    Calls Try.prog 19 #[.pointer p] w fun e w' => e = .returned (ownV none) ∧ w = w' := by
  have H := Lib.hid h
  clear h
  go_enter Try.func19, Try.ntmps19
  go_wp2_with (first | (go_at_call 63; refine H.out.mono ?_; rintro e w' ⟨rfl, rfl⟩))
  go_ret2
  exact ⟨rfl, rfl⟩

set_option maxRecDepth 100000 in
theorem waits_any (B : Nat) (w0 : World) (b : Nat) (own : Option Int) (ws : List Int) (L F : List (Nat × Obj)) (w : World) (hM : Mx b own ws L) (hO : Own B w0 w F) (hL : ∀ p ∈ L, p ∈ F) :
    Calls Try.prog 21 #[.pointer (some ⟨b, 0, none⟩)] w (NewSl 3 1 I B w0 F ws) := by
  obtain ⟨o, v, Lo, Lv, rfl, hb, hs, hl⟩ := hM
  have hh := hO.get _ (hL _ (List.mem_cons_self))
  have hc0 : w.cell? ⟨b, 0, none⟩ = some (.bool true) := cell_of_get hh 0
  have hc2 : w.cell? ⟨b, 2, none⟩ = some v := cell_of_get hh 2
  clear hb
  go_enter Try.func21, Try.ntmps21
  go_wp2_with (first | (go_at_call 63; refine (none_at b true _ hc0).mono ?_; rintro e w' ⟨rfl, rfl⟩) | (go_at_call 64; refine (clone64 B w0 F ws v Lv _ hs (fun p hp => hL p (by simp [hp])) hO (by omega)).mono ?_; rintro e w1 ⟨v1, L1, rfl, hS1, hO1⟩))
  go_ret
  exact ⟨v1, L1, rfl, hS1, hO1⟩

theorem waits_none (p : Option Addr) (w : World) (h : Calls Try.prog 63 #[.pointer p] w fun e w' => e = .returned (.bool true) ∧ w = w') :
    Calls Try.prog 21 #[.pointer p] w fun e w' => e = .returned (.slice none 0 0) ∧ w = w' := by
  have H := Lib.hid h
  clear h
  go_enter Try.func21, Try.ntmps21
  go_wp2_with (first | (go_at_call 63; refine H.out.mono ?_; rintro e w' ⟨rfl, rfl⟩))
  go_ret
  exact ⟨rfl, rfl⟩

end Go.Proofs.Ytidnkienkdlmkaa
