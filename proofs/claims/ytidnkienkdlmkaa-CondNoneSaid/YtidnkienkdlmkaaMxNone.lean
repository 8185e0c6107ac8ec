/-
  shuttlelaw16.MutexNone: a mutex that no call made. No condition.
-/
import Derived.Test.YtidnkienkdlmkaaMxTurn
namespace Go.Proofs.Ytidnkienkdlmkaa
open Go.RowKit Go.Sh

/-- A mutex that no call made: nil, or zero. -/
def NoneM (w : World) (p : Option Addr) : Prop := p = none ∨ ∃ b, p = some ⟨b, 0, none⟩ ∧ w.cell? ⟨b, 0, none⟩ = some (.bool false)

theorem NoneM.later {w w' : World} {p : Option Addr} (h : NoneM w p) (hb : ∀ a v, w.cell? a = some v → w'.cell? a = some v) : NoneM w' p := by
  rcases h with h | ⟨b, h, hc⟩
  · exact .inl h
  · exact .inr ⟨b, h, hb _ _ hc⟩

theorem NoneM.alloc {w : World} {p : Option Addr} (h : NoneM w p) (o : Obj) : NoneM (w.alloc o) p :=
  h.later fun a v hv => by rw [World.cell?_alloc_lt _ _ _ (World.block_lt_of_cell? _ _ hv)]; exact hv

theorem none_of {w : World} {p : Option Addr} (h : NoneM w p) : Calls Try.prog 63 #[.pointer p] w fun e w' => e = .returned (.bool true) ∧ w = w' := by
  rcases h with rfl | ⟨b, rfl, hc⟩
  · exact none_nil w
  · exact none_at b false w hc

set_option maxRecDepth 100000 in
theorem lock_none (B : Nat) (w0 : World) (F : List (Nat × Obj)) (p : Option Addr) (who : Int) (w : World) (h : NoneM w p) (hO : Own B w0 w F) :
    Calls Try.prog 17 #[.pointer p, .int .i64 who] w fun e w' => e = .returned (.tuple #[outV false 0 0 0 (.slice none 0 0), .int .i64 2]) ∧ Own B w0 w' F := by
  have hO2 := (hO.junk (.cells #[.int .i64 who] 3)).junk (.cells #[.bool false, .int .i64 0, .int .i64 0, .int .i64 0, .slice none 0 0] 33)
  have H2 := Lib.hid ((h.alloc (.cells #[.int .i64 who] 3)).alloc (.cells #[.bool false, .int .i64 0, .int .i64 0, .int .i64 0, .slice none 0 0] 33))
  clear h
  go_enter Try.func17, Try.ntmps17
  go_wp2_with (go_at_call 61; refine (may_none p who _ (none_of H2.out)).mono ?_; rintro e w' ⟨rfl, rfl⟩)
  exact bodyPost_ret (v := .tuple #[outV false 0 0 0 (.slice none 0 0), .int .i64 2]) (by simp [results, Try.results17, go_sem]) rfl ⟨rfl, hO2⟩

set_option maxRecDepth 100000 in
theorem unlock_none (B : Nat) (w0 : World) (F : List (Nat × Obj)) (p : Option Addr) (who : Int) (w : World) (h : NoneM w p) (hO : Own B w0 w F) :
    Calls Try.prog 18 #[.pointer p, .int .i64 who] w fun e w' => e = .returned (.tuple #[outV false 0 0 0 (.slice none 0 0), .int .i64 2]) ∧ Own B w0 w' F := by
  have hO2 := hO.junk (.cells #[.bool false, .int .i64 0, .int .i64 0, .int .i64 0, .slice none 0 0] 33)
  have H2 := Lib.hid (h.alloc (.cells #[.bool false, .int .i64 0, .int .i64 0, .int .i64 0, .slice none 0 0] 33))
  clear h
  go_enter Try.func18, Try.ntmps18
  go_wp2_with (go_at_call 61; refine (may_none p who _ (none_of H2.out)).mono ?_; rintro e w' ⟨rfl, rfl⟩)
  exact bodyPost_ret (v := .tuple #[outV false 0 0 0 (.slice none 0 0), .int .i64 2]) (by simp [results, Try.results18, go_sem]) rfl ⟨rfl, hO2⟩

theorem drop_none (p : Option Addr) (who : Int) (w : World) (h : NoneM w p) :
    Calls Try.prog 22 #[.pointer p, .int .i64 who] w fun e w' => e = .returned (.int .i64 2) ∧ w = w' := by
  have H := Lib.hid h
  clear h
  go_enter Try.func22, Try.ntmps22
  go_wp2_with (go_at_call 63; refine (none_of H.out).mono ?_; rintro e w' ⟨rfl, rfl⟩)
  go_ret
  exact ⟨rfl, rfl⟩

theorem mclone_none (p : Option Addr) (w : World) (h : NoneM w p) :
    Calls Try.prog 25 #[.pointer p] w fun e w' => e = .returned (.pointer none) ∧ w = w' := by
  have H := Lib.hid h
  clear h
  go_enter Try.func25, Try.ntmps25
  go_wp2_with (go_at_call 63; refine (none_of H.out).mono ?_; rintro e w' ⟨rfl, rfl⟩)
  go_ret
  exact ⟨rfl, rfl⟩

end Go.Proofs.Ytidnkienkdlmkaa
