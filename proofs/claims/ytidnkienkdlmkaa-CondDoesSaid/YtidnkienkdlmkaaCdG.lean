/-
  The world of shuttlelaw17: contracts of begun, one; the state and the answers of an act. Condition: few waiters.
-/
import Derived.Test.YtidnkienkdlmkaaCdF
import Derived.Test.YtidnkienkdlmkaaMxMore
namespace Go.Proofs.Ytidnkienkdlmkaa
open Go.RowKit Go.Sh
attribute [local go_sem ↓] Go.wp_at_zero Go.wp_at_succ

theorem kdC {w : World} {a : Addr} {v : Value} (h : w.cell? a = some v) : w.drew.cell? a = some v := h
theorem kpC {w : World} {a : Addr} {v : Value} {o : Obj} (h : w.cell? a = some v) : (w.alloc o).cell? a = some v := cell_al o h
theorem ksC {w : World} {p a : Addr} {v u : Value} (h : w.cell? a = some v) (hne : p.block ≠ a.block) : (w.setCell p u).cell? a = some v := by
  rw [World.cell?_setCell_far _ _ _ _ hne]; exact h

abbrev gobjW (bc b0 b1 : Nat) : Obj := Obj.cells #[.pointer (some ⟨bc, 0, none⟩), .pointer (some ⟨b0, 0, none⟩), .pointer (some ⟨b1, 0, none⟩)] 67 (0, 0)
abbrev opbx (d who : Int) (m : Bool) : Obj := Obj.cells #[.int .i64 d, .int .i64 who, .bool m] 61 (0, 0)

def ks0 : KS := ⟨[], none, [], none, []⟩

/-- The world in block bx. -/
def Wx (bx bc b0 b1 : Nat) (s : KS) (L : List (Nat × Obj)) : Prop := ∃ Lk, L = (bx, gobjW bc b0 b1) :: Lk ∧ Kw bc b0 b1 s Lk

def BegunPost (B : Nat) (w0 : World) (F : List (Nat × Obj)) (e : Ending) (w' : World) : Prop :=
  ∃ bx bc b0 b1 L, e = .returned (.pointer (some ⟨bx, 0, none⟩)) ∧ Wx bx bc b0 b1 ks0 L ∧ Own B w0 w' (L ++ F)

set_option maxRecDepth 100000 in
theorem begun29 (B : Nat) (w0 : World) (F : List (Nat × Obj)) (w : World) (hO : Own B w0 w F) : Calls Try.prog 29 #[] w (BegunPost B w0 F) := by
  have h1 := (((hO.allocAt (kobj (.slice none 0 0)) (n := w.heap.size) rfl).allocAt (.cells #[.bool true, .pointer none, .slice none 0 0] 48) (n := w.heap.size + 1) (by simp)).allocAt (.cells #[.bool true, .pointer none, .slice none 0 0] 48) (n := w.heap.size + 1 + 1) (by simp)).allocAt (gobjW w.heap.size (w.heap.size + 1) (w.heap.size + 1 + 1)) (n := w.heap.size + 1 + 1 + 1) (by simp)
  have HO := Lib.hid (h1.shuf [[_], [_], [_], [_], F] [0, 3, 2, 1, 4] rfl rfl)
  clear h1 hO
  go_enter Try.func29, Try.ntmps29
  go_wp2_with (first | (go_at_call 38; refine (knew38 _).mono ?_; rintro e w' ⟨rfl, rfl⟩) | (go_at_call 15; refine (new15 _).mono ?_; rintro e w' ⟨rfl, rfl⟩))
  go_ret
  exact ⟨w.heap.size + 1 + 1 + 1, w.heap.size, w.heap.size + 1, w.heap.size + 1 + 1, _, rfl, ⟨_, rfl, _, _, _, rfl, Kx.new _, Mx.new _, Mx.new _⟩, HO.out⟩

theorem one32 (d who : Int) (m : Bool) (w : World) : Calls Try.prog 32 #[.agg #[.int .i64 d, .int .i64 who, .bool m]] w fun e w' => e = .returned (.int .i64 (if m then 1 else 0)) ∧ w' = w.alloc (opbx d who m) := by
  cases m with
  | false =>
    go_enter Try.func32, Try.ntmps32
    go_wp2
    go_ret
    exact ⟨rfl, rfl⟩
  | true =>
    go_enter Try.func32, Try.ntmps32
    go_wp2
    go_ret
    exact ⟨rfl, rfl⟩

def doesK (s : KS) (d who : Int) (m : Bool) : KR :=
  if d = 0 then ⟨(lockR (s.own m) (s.ws m) who).done, (lockR (s.own m) (s.ws m) who).fault, [], (lockR (s.own m) (s.ws m) who).err, s.put m (lockR (s.own m) (s.ws m) who).own (lockR (s.own m) (s.ws m) who).ws⟩
  else if d = 1 then ⟨(unlockR (s.own m) (s.ws m) who).done, (unlockR (s.own m) (s.ws m) who).fault, (unlockR (s.own m) (s.ws m) who).wakes, (unlockR (s.own m) (s.ws m) who).err, s.put m (unlockR (s.own m) (s.ws m) who).own (unlockR (s.own m) (s.ws m) who).ws⟩
  else if d = 2 then waitK s who m
  else if d = 3 then ⟨true, 0, (sevK (min s.q.length 1) s).1, 0, (sevK (min s.q.length 1) s).2⟩
  else if d = 4 then ⟨true, 0, (sevK s.q.length s).1, 0, (sevK s.q.length s).2⟩
  else if d = 5 then ⟨false, 0, [], (kdropK s who).1, (kdropK s who).2⟩
  else ⟨false, 0, [], 0, s⟩

def DoesPost (B : Nat) (w0 : World) (bx bc b0 b1 : Nat) (F : List (Nat × Obj)) (r : KR) (e : Ending) (w' : World) : Prop :=
  ∃ wk Lk L', e = .returned (.tuple #[outV r.done 0 0 r.fault wk, .int .i64 r.err]) ∧ Sl 38 4 W4 wk r.wakes Lk ∧ Wx bx bc b0 b1 r.st L' ∧ Own B w0 w' (L' ++ (Lk ++ F))

theorem does_mk {B : Nat} {w0 : World} {bx bc b0 b1 : Nat} {F L' Lk : List (Nat × Obj)} {r r' : KR} {e : Ending} {w' : World} (wk : Value) (HR : Hid (r = r')) (he : e = .returned (.tuple #[outV r'.done 0 0 r'.fault wk, .int .i64 r'.err]))
    (hk : Sl 38 4 W4 wk r'.wakes Lk) (hM : Wx bx bc b0 b1 r'.st L') (hO : Own B w0 w' (L' ++ (Lk ++ F))) : DoesPost B w0 bx bc b0 b1 F r e w' := by
  rw [HR.out]
  exact ⟨wk, Lk, L', he, hk, hM, hO⟩

end Go.Proofs.Ytidnkienkdlmkaa
