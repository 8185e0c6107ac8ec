/-
  The walk of shuttlelaw17.CondNone: it returns true. No condition.
-/
import Derived.Test.YtidnkienkdlmkaaCdI
import Derived.Test.YtidnkienkdlmkaaMxNone
namespace Go.Proofs.Ytidnkienkdlmkaa
open Go.RowKit Go.Sh

/-- A condition that no call made: nil, or zero. -/
def NoneC (w : World) (p : Option Addr) : Prop := p = none ∨ ∃ b, p = some ⟨b, 0, none⟩ ∧ w.cell? ⟨b, 1, none⟩ = some (.bool false)
abbrev zeroK : Obj := Obj.cells #[.slice none 0 0, .bool false] 73 (0, 0)

theorem NoneC.own {B : Nat} {w0 w : World} {F : List (Nat × Obj)} {p : Option Addr} (hO : Own B w0 w F) (h : p = none ∨ ∃ b, p = some ⟨b, 0, none⟩ ∧ (b, zeroK) ∈ F) : NoneC w p := by
  rcases h with h | ⟨b, h, hm⟩
  · exact .inl h
  · exact .inr ⟨b, h, cell_of_get (hO.get (b, zeroK) hm) 1⟩

theorem NoneC.below {w w' : World} {p : Option Addr} (h : NoneC w p) (hb : Below w.heap.size w w') : NoneC w' p := by
  rcases h with h | ⟨b, h, hc⟩
  · exact .inl h
  · exact .inr ⟨b, h, (hb.cell (p := ⟨b, 1, none⟩) (World.block_lt_of_cell? _ _ hc)).trans hc⟩

theorem knone_of {w : World} {p : Option Addr} (h : NoneC w p) : Calls Try.prog 69 #[.pointer p] w fun e w' => e = .returned (.bool true) ∧ w = w' := by
  rcases h with rfl | ⟨b, rfl, hc⟩
  · exact knone_nil w
  · exact knone b false w hc

theorem kdrop_none (p : Option Addr) (who : Int) (w : World) (h : NoneC w p) : Calls Try.prog 36 #[.pointer p, .int .i64 who] w fun e w' => e = .returned (.int .i64 2) ∧ w = w' := by
  have H := Lib.hid h
  clear h
  go_enter Try.func36, Try.ntmps36
  go_wp2_with (go_at_call 69; refine (knone_of H.out).mono ?_; rintro e w' ⟨rfl, rfl⟩)
  go_ret
  exact ⟨rfl, rfl⟩

theorem kwaits_none (p : Option Addr) (w : World) (h : NoneC w p) : Calls Try.prog 37 #[.pointer p] w fun e w' => e = .returned (.slice none 0 0) ∧ w = w' := by
  have H := Lib.hid h
  clear h
  go_enter Try.func37, Try.ntmps37
  go_wp2_with (go_at_call 69; refine (knone_of H.out).mono ?_; rintro e w' ⟨rfl, rfl⟩)
  go_ret
  exact ⟨rfl, rfl⟩

set_option maxRecDepth 100000 in
theorem kwait_none (B : Nat) (w0 : World) (F : List (Nat × Obj)) (p : Option Addr) (who : Int) (q : Option Addr) (w : World) (h : NoneC w p) (hO : Own B w0 w F) :
    Calls Try.prog 33 #[.pointer p, .int .i64 who, .pointer q] w fun e w' => e = .returned (.tuple #[outV false 0 0 0 (.slice none 0 0), .int .i64 2]) ∧ Own B w0 w' F := by
  have H := Lib.hid (h.below ((Below.refl _ w).alloc (Nat.le_refl _) kZ))
  clear h
  go_enter Try.func33, Try.ntmps33
  go_wp2_with (go_at_call 69; refine (knone_of H.out).mono ?_; rintro e w' ⟨rfl, rfl⟩)
  exact bodyPost_ret (v := .tuple #[outV false 0 0 0 (.slice none 0 0), .int .i64 2]) (by simp [results, Try.results33, go_sem]) rfl ⟨rfl, hO.junk _⟩

theorem NoneM.below {w w' : World} {p : Option Addr} (h : NoneM w p) (hb : Below w.heap.size w w') : NoneM w' p :=
  h.imp id fun ⟨b, h, hc⟩ => ⟨b, h, (hb.cell (p := ⟨b, 0, none⟩) (World.block_lt_of_cell? _ _ hc)).trans hc⟩

set_option maxRecDepth 100000 in
theorem kwait_nonem (B : Nat) (w0 : World) (F : List (Nat × Obj)) (bc : Nat) (who : Int) (q : Option Addr) (w : World) (hc : w.cell? ⟨bc, 1, none⟩ = some (.bool true)) (h : NoneM w q) (hO : Own B w0 w F) :
    Calls Try.prog 33 #[.pointer (some ⟨bc, 0, none⟩), .int .i64 who, .pointer q] w fun e w' => e = .returned (.tuple #[outV false 0 0 0 (.slice none 0 0), .int .i64 2]) ∧ Own B w0 w' F := by
  have H := Lib.hid (h.below ((Below.refl _ w).alloc (Nat.le_refl _) kZ))
  have HC := Lib.hid (cell_al kZ hc)
  clear h hc
  go_enter Try.func33, Try.ntmps33
  go_wp2_with (first | (go_at_call 69; refine (knone bc true _ HC.out).mono ?_; rintro e w' ⟨rfl, rfl⟩) | (go_at_call 25; refine (mclone_none q _ H.out).mono ?_; rintro e w' ⟨rfl, rfl⟩))
  exact bodyPost_ret (v := .tuple #[outV false 0 0 0 (.slice none 0 0), .int .i64 2]) (by simp [results, Try.results33, go_sem]) rfl ⟨rfl, hO.junk _⟩

abbrev zeroMk : Obj := Obj.cells #[.bool false, .pointer none, .slice none 0 0] 48 (0, 0)
theorem NoneM.ownk {B : Nat} {w0 w : World} {F : List (Nat × Obj)} {p : Option Addr} (hO : Own B w0 w F) (h : p = none ∨ ∃ b, p = some ⟨b, 0, none⟩ ∧ (b, zeroMk) ∈ F) : NoneM w p := by
  rcases h with h | ⟨b, h, hm⟩
  · exact .inl h
  · exact .inr ⟨b, h, cell_of_get (hO.get (b, zeroMk) hm) 0⟩

abbrev mnew0 : Obj := Obj.cells #[.bool true, .pointer none, .slice none 0 0] 48 (0, 0)

def KNoneRel (B : Nat) (w0 : World) (m b g : Nat) (ok i : Value) (wr : World) : Prop :=
  ∃ k : Nat, k ≤ 2 ∧ i = .int .i64 k ∧ ok = .bool false ∧ Own B w0 wr [(g, Obj.cells #[.pointer none, .pointer (some ⟨b, 0, none⟩)] 64 (0, 0)), (b, zeroK), (m, mnew0)]
def KNoneRel2 (B : Nat) (w0 : World) (c b g : Nat) (ok i : Value) (wr : World) : Prop :=
  ∃ k : Nat, k ≤ 2 ∧ i = .int .i64 k ∧ ok = .bool false ∧ Own B w0 wr [(g, Obj.cells #[.pointer none, .pointer (some ⟨b, 0, none⟩)] 23 (0, 0)), (b, zeroMk), (c, kobj (.slice none 0 0))]

set_option maxRecDepth 100000 in
set_option maxHeartbeats 8000000 in
theorem knone8 (who : Int) (w : World) {P : Prop} (_ : P) :
    Calls Try.prog 8 #[.int .i64 who] w fun e w' => e = .returned (.bool true) ∧ Below w.heap.size w w' := by
  have hO0 := (((Own.start w).alloc mnew0).allocAt zeroK (n := w.heap.size + 1) (by simp)).allocAt (Obj.cells #[.pointer none, .pointer (some ⟨w.heap.size + 1, 0, none⟩)] 64 (0, 0)) (n := w.heap.size + 1 + 1) (by simp)
  go_enter Try.func8, Try.ntmps8
  go_wp2_with (go_at_call 15; refine (new15 _).mono ?_; rintro e w' ⟨rfl, rfl⟩)
  go_loopw [2, 22] (fun ok i wr => KNoneRel w.heap.size w w.heap.size (w.heap.size + 1) (w.heap.size + 1 + 1) ok i wr) (fun _ i _ => 2 - (intOf i).toNat)
  case atStart => exact ⟨0, Nat.zero_le _, rfl, rfl, by simpa using hO0⟩
  case round =>
    clear hO0
    obtain ⟨k, hk, rfl, rfl, hO1⟩ := hrel
    by_cases hlt : k < 2
    · have hS := hO1.get (w.heap.size + 1 + 1, _) List.mem_cons_self
      obtain ⟨p, hp, hM⟩ : ∃ p : Option Addr, wr.cell? ⟨w.heap.size + 1 + 1, k, none⟩ = some (.pointer p) ∧ (p = none ∨ ∃ b, p = some ⟨b, 0, none⟩ ∧ b = w.heap.size + 1) := by
        rcases (show k = 0 ∨ k = 1 by omega) with rfl | rfl
        · exact ⟨none, cell_of_get hS 0, .inl rfl⟩
        · exact ⟨some ⟨w.heap.size + 1, 0, none⟩, cell_of_get hS 1, .inr ⟨_, rfl, rfl⟩⟩
      have HM : Hid (∀ (F : List (Nat × Obj)), (w.heap.size + 1, zeroK) ∈ F → (p = none ∨ ∃ b, p = some ⟨b, 0, none⟩ ∧ (b, zeroK) ∈ F)) := by
        refine Lib.hid ?_
        intro F h
        rcases hM with h1 | ⟨b, h1, rfl⟩
        · exact .inl h1
        · exact .inr ⟨_, h1, h⟩
      clear hS hM
      go_wp2_with fail
      refine (kwait_none w.heap.size w _ p who _ _ (NoneC.own hO1 (HM.out _ (by simp))) hO1).mono ?_
      rintro e w1 ⟨rfl, hO2⟩
      have hO3 := hO2.alloc kZ
      go_wp2_with fail
      refine (signal_none w.heap.size w p _ _ hO3 (fun W hW => knone_of ((NoneC.own hO3 (HM.out _ (by simp))).below hW))).mono ?_
      rintro e w2 ⟨rfl, hO4⟩
      have hO5 := hO4.alloc kZ
      go_wp2_with fail
      refine (broadcast_none w.heap.size w p _ _ hO5 (fun W hW => knone_of ((NoneC.own hO5 (HM.out _ (by simp))).below hW))).mono ?_
      rintro e w3 ⟨rfl, hO6⟩
      have hO7 := hO6.alloc kZ
      have q1 : w3.heap[w1.heap.size]? = some kZ := hO6.get (w1.heap.size, kZ) (by simp)
      obtain ⟨a0, a1, a2, a3, a4⟩ := z5 q1
      have al := lt_of_get q1
      clear hO1 hO2 hO3 hO4 hO5 hp q1
      go_wp2_with fail
      refine (same24 w.heap.size w _ false 0 0 0 [] (.slice none 0 0) (.slice none 0 0) _ (.inl ⟨rfl, _, _, rfl⟩) (.inl ⟨rfl, _, _, rfl⟩) hO7 (by simp)).mono ?_
      rintro e w4 ⟨rfl, hO8⟩
      have q2 : w4.heap[w2.heap.size]? = some kZ := hO8.get (w2.heap.size, kZ) (by simp)
      obtain ⟨b0, b1, b2, b3, b4⟩ := z5 q2
      have bl := lt_of_get q2
      clear hO7 q2 a0 a1 a2 a3 a4 al
      go_wp2_with fail
      refine (same24 w.heap.size w _ false 0 0 0 [] (.slice none 0 0) (.slice none 0 0) _ (.inl ⟨rfl, _, _, rfl⟩) (.inl ⟨rfl, _, _, rfl⟩) hO8 (by simp)).mono ?_
      rintro e w5 ⟨rfl, hO9⟩
      have q3 : w5.heap[w3.heap.size]? = some kZ := hO9.get (w3.heap.size, kZ) (by simp)
      obtain ⟨c0, c1, c2, c3, c4⟩ := z5 q3
      have cl := lt_of_get q3
      clear hO8 q3 b0 b1 b2 b3 b4 bl
      go_wp2_with fail
      refine (same24 w.heap.size w _ false 0 0 0 [] (.slice none 0 0) (.slice none 0 0) _ (.inl ⟨rfl, _, _, rfl⟩) (.inl ⟨rfl, _, _, rfl⟩) hO9 (by simp)).mono ?_
      rintro e w6 ⟨rfl, hO10⟩
      clear hO9 c0 c1 c2 c3 c4 cl
      go_wp2_with fail
      refine (kdrop_none p who _ (NoneC.own hO10 (HM.out _ (by simp)))).mono ?_
      rintro e w' ⟨rfl, rfl⟩
      go_wp2_with fail
      refine (kwaits_none p _ (NoneC.own hO10 (HM.out _ (by simp)))).mono ?_
      rintro e w' ⟨rfl, rfl⟩
      go_wp2
      exact ⟨⟨k + 1, by omega, by go_num, rfl, hO10.tail.tail.tail⟩, by simp [intOf]; omega⟩
    · have hO2 := (((hO1.sub (L' := []) (by simp)).allocAt (kobj (.slice none 0 0)) (n := wr.heap.size) rfl).allocAt zeroMk (n := wr.heap.size + 1) (by simp)).allocAt (Obj.cells #[.pointer none, .pointer (some ⟨wr.heap.size + 1, 0, none⟩)] 23 (0, 0)) (n := wr.heap.size + 1 + 1) (by simp)
      clear hO1
      go_wp2_with (go_at_call 38; refine (knew38 _).mono ?_; rintro e w' ⟨rfl, rfl⟩)
      obtain ⟨C, hC⟩ : ∃ C, wr.heap.size = C := ⟨_, rfl⟩
      rw [hC] at hO2 ⊢
      clear hC
      go_loopw [2, 89] (fun ok i wr => KNoneRel2 w.heap.size w C (C + 1) (C + 1 + 1) ok i wr) (fun _ i _ => 2 - (intOf i).toNat)
      case atStart => exact ⟨0, Nat.zero_le _, rfl, rfl, by simpa using hO2⟩
      case round =>
        clear hO2
        obtain ⟨j, hj, rfl, rfl, hO1⟩ := hrel
        by_cases hlj : j < 2
        · have hS := hO1.get (C + 1 + 1, _) List.mem_cons_self
          obtain ⟨p, hp, hM⟩ : ∃ p : Option Addr, wr.cell? ⟨C + 1 + 1, j, none⟩ = some (.pointer p) ∧ (p = none ∨ ∃ b, p = some ⟨b, 0, none⟩ ∧ b = C + 1) := by
            rcases (show j = 0 ∨ j = 1 by omega) with rfl | rfl
            · exact ⟨none, cell_of_get hS 0, .inl rfl⟩
            · exact ⟨some ⟨C + 1, 0, none⟩, cell_of_get hS 1, .inr ⟨_, rfl, rfl⟩⟩
          have HM : Hid (∀ (F : List (Nat × Obj)), (C + 1, zeroMk) ∈ F → (p = none ∨ ∃ b, p = some ⟨b, 0, none⟩ ∧ (b, zeroMk) ∈ F)) := by
            refine Lib.hid ?_
            intro F h
            rcases hM with h1 | ⟨b, h1, rfl⟩
            · exact .inl h1
            · exact .inr ⟨_, h1, h⟩
          have hc1 : wr.cell? ⟨C, 1, none⟩ = some (.bool true) := cell_of_get (hO1.get (C, kobj (.slice none 0 0)) (by simp)) 1
          have HC1 := Lib.hid hc1
          clear hS hM hc1
          go_wp2_with fail
          refine (kwait_nonem w.heap.size w _ C who p _ HC1.out (NoneM.ownk hO1 (HM.out _ (by simp))) hO1).mono ?_
          rintro e w1 ⟨rfl, hO2⟩
          have hO3 := hO2.alloc kZ
          clear hO1 hO2 hp HC1
          go_wp2_with fail
          refine (same24 w.heap.size w _ false 0 0 0 [] (.slice none 0 0) (.slice none 0 0) _ (.inl ⟨rfl, _, _, rfl⟩) (.inl ⟨rfl, _, _, rfl⟩) hO3 (by simp)).mono ?_
          rintro e w4 ⟨rfl, hO8⟩
          go_wp2
          exact ⟨⟨j + 1, by omega, by go_num, rfl, hO8.tail⟩, by simp [intOf]; omega⟩
        · go_wp2_with fail
          refine (awake30 w.heap.size w _ _ hO1).mono ?_
          rintro e w1 ⟨rfl, hO2⟩
          go_wp2
          go_ret
          exact ⟨rfl, hO2.below⟩

end Go.Proofs.Ytidnkienkdlmkaa
