/-
  A channel that no call made: the contracts. No condition.
-/
import Derived.Test.YtidnkienkdlmkaaChTold
import Derived.Test.YtidnkienkdlmkaaChAwake
namespace Go.Proofs.Ytidnkienkdlmkaa
open Go.RowKit Go.Shelf Go.Sh

/-- A channel that no call made: nil, or zero. -/
def NoneC (w : World) (p : Option Addr) : Prop := p = none ∨ ∃ b, p = some ⟨b, 0, none⟩ ∧ w.cell? ⟨b, 0, none⟩ = some (.bool false)

theorem NoneC.below {w w' : World} {p : Option Addr} (h : NoneC w p) (hb : Below w.heap.size w w') : NoneC w' p := by
  rcases h with h | ⟨b, h, hc⟩
  · exact .inl h
  · exact .inr ⟨b, h, (hb.cell (p := ⟨b, 0, none⟩) (World.block_lt_of_cell? _ _ hc)).trans hc⟩

theorem NoneC.alloc {w : World} {p : Option Addr} (h : NoneC w p) (o : Obj) : NoneC (w.alloc o) p := h.below ((Below.refl _ w).alloc (Nat.le_refl _) _)

theorem cnone_z {w : World} {p : Option Addr} (h : NoneC w p) : Calls Try.prog 88 #[.pointer p] w fun e w' => e = .returned (.bool true) ∧ w = w' := by
  rcases h with rfl | ⟨b, rfl, hc⟩
  · go_enter Try.func88, Try.ntmps88
    go_wp2
    go_ret
    exact ⟨rfl, rfl⟩
  · go_enter Try.func88, Try.ntmps88
    go_wp2
    go_ret
    exact ⟨rfl, rfl⟩

theorem cmay_z {w : World} {p : Option Addr} (who : Int) (h : NoneC w p) : Calls Try.prog 80 #[.pointer p, .int .i64 who] w fun e w' => e = .returned (.int .i64 2) ∧ w = w' := by
  have H := Lib.hid h
  clear h
  go_enter Try.func80, Try.ntmps80
  go_wp2_with (go_at_call 88; refine (cnone_z H.out).mono ?_; rintro e w' ⟨rfl, rfl⟩)
  go_ret
  exact ⟨rfl, rfl⟩

def ZOut (B : Nat) (w0 : World) (F : List (Nat × Obj)) (e : Ending) (w' : World) : Prop := e = .returned (.tuple #[outV false 0 0 0 (.slice none 0 0), .int .i64 2]) ∧ Sh.Own B w0 w' F

theorem csend_z (B : Nat) (w0 : World) (F : List (Nat × Obj)) {w : World} {p : Option Addr} (who : Int) (x : V2) (h : NoneC w p) (hO : Sh.Own B w0 w F) : Calls Try.prog 44 #[.pointer p, .int .i64 who, .agg #[.int .i64 x.t, .int .i64 x.n]] w (ZOut B w0 F) := by
  have H := Lib.hid ((h.alloc (box30 x)).alloc outZ)
  have HO := Lib.hid ((hO.junk (box30 x)).junk outZ)
  clear h hO
  go_enter Try.func44, Try.ntmps44
  go_wp2_with (go_at_call 80; refine (cmay_z who H.out).mono ?_; rintro e w' ⟨rfl, rfl⟩)
  exact bodyPost_ret (v := .tuple #[outV false 0 0 0 (.slice none 0 0), .int .i64 2]) (by simp [results, Try.results44, go_sem]) rfl ⟨rfl, HO.out⟩

theorem crecv_z (B : Nat) (w0 : World) (F : List (Nat × Obj)) {w : World} {p : Option Addr} (who : Int) (h : NoneC w p) (hO : Sh.Own B w0 w F) : Calls Try.prog 45 #[.pointer p, .int .i64 who] w (ZOut B w0 F) := by
  have H := Lib.hid (h.alloc outZ)
  have HO := Lib.hid (hO.junk outZ)
  clear h hO
  go_enter Try.func45, Try.ntmps45
  go_wp2_with (go_at_call 80; refine (cmay_z who H.out).mono ?_; rintro e w' ⟨rfl, rfl⟩)
  exact bodyPost_ret (v := .tuple #[outV false 0 0 0 (.slice none 0 0), .int .i64 2]) (by simp [results, Try.results45, go_sem]) rfl ⟨rfl, HO.out⟩

theorem cclose_z (B : Nat) (w0 : World) (F : List (Nat × Obj)) {w : World} {p : Option Addr} (h : NoneC w p) (hO : Sh.Own B w0 w F) : Calls Try.prog 50 #[.pointer p] w (ZOut B w0 F) := by
  have H := Lib.hid (h.alloc outZ)
  have HO := Lib.hid (hO.junk outZ)
  clear h hO
  go_enter Try.func50, Try.ntmps50
  go_wp2_with (go_at_call 88; refine (cnone_z H.out).mono ?_; rintro e w' ⟨rfl, rfl⟩)
  exact bodyPost_ret (v := .tuple #[outV false 0 0 0 (.slice none 0 0), .int .i64 2]) (by simp [results, Try.results50, go_sem]) rfl ⟨rfl, HO.out⟩

theorem cdrop_z {w : World} {p : Option Addr} (who : Int) (h : NoneC w p) : Calls Try.prog 51 #[.pointer p, .int .i64 who] w fun e w' => e = .returned (.int .i64 2) ∧ w = w' := by
  have H := Lib.hid h
  clear h
  go_enter Try.func51, Try.ntmps51
  go_wp2_with (go_at_call 88; refine (cnone_z H.out).mono ?_; rintro e w' ⟨rfl, rfl⟩)
  go_ret
  exact ⟨rfl, rfl⟩

theorem clen_z {w : World} {p : Option Addr} (h : NoneC w p) : Calls Try.prog 53 #[.pointer p] w fun e w' => e = .returned (.int .i64 0) ∧ w = w' := by
  have H := Lib.hid h
  clear h
  go_enter Try.func53, Try.ntmps53
  go_wp2_with (go_at_call 88; refine (cnone_z H.out).mono ?_; rintro e w' ⟨rfl, rfl⟩)
  go_ret
  exact ⟨rfl, rfl⟩

theorem croom_z {w : World} {p : Option Addr} (h : NoneC w p) : Calls Try.prog 54 #[.pointer p] w fun e w' => e = .returned (.int .i64 0) ∧ w = w' := by
  have H := Lib.hid h
  clear h
  go_enter Try.func54, Try.ntmps54
  go_wp2_with (go_at_call 88; refine (cnone_z H.out).mono ?_; rintro e w' ⟨rfl, rfl⟩)
  go_ret
  exact ⟨rfl, rfl⟩

theorem cclosed_z {w : World} {p : Option Addr} (h : NoneC w p) : Calls Try.prog 55 #[.pointer p] w fun e w' => e = .returned (.bool false) ∧ w = w' := by
  have H := Lib.hid h
  clear h
  go_enter Try.func55, Try.ntmps55
  go_wp2_with (go_at_call 88; refine (cnone_z H.out).mono ?_; rintro e w' ⟨rfl, rfl⟩)
  go_ret
  exact ⟨rfl, rfl⟩

theorem csenders_z {w : World} {p : Option Addr} (h : NoneC w p) : Calls Try.prog 48 #[.pointer p] w fun e w' => e = .returned (.slice none 0 0) ∧ w = w' := by
  have H := Lib.hid h
  clear h
  go_enter Try.func48, Try.ntmps48
  go_wp2_with (go_at_call 88; refine (cnone_z H.out).mono ?_; rintro e w' ⟨rfl, rfl⟩)
  go_ret
  exact ⟨rfl, rfl⟩

theorem creceivers_z {w : World} {p : Option Addr} (h : NoneC w p) : Calls Try.prog 52 #[.pointer p] w fun e w' => e = .returned (.slice none 0 0) ∧ w = w' := by
  have H := Lib.hid h
  clear h
  go_enter Try.func52, Try.ntmps52
  go_wp2_with (go_at_call 88; refine (cnone_z H.out).mono ?_; rintro e w' ⟨rfl, rfl⟩)
  go_ret
  exact ⟨rfl, rfl⟩

theorem cclone_z {w : World} {p : Option Addr} (h : NoneC w p) : Calls Try.prog 57 #[.pointer p] w fun e w' => e = .returned (.pointer none) ∧ w = w' := by
  have H := Lib.hid h
  clear h
  go_enter Try.func57, Try.ntmps57
  go_wp2_with (go_at_call 88; refine (cnone_z H.out).mono ?_; rintro e w' ⟨rfl, rfl⟩)
  go_ret
  exact ⟨rfl, rfl⟩

theorem told46_z (B : Nat) (w0 : World) (F : List (Nat × Obj)) (p : Option Addr) (Bp m : Nat) (w : World) (hq : NoneC w p) (hO : Sh.Own B w0 w F) (hBp : w.cell? ⟨Bp, 0, none⟩ = some (.pointer p)) :
    Calls Try.prog 46 #[.func (.func 87) #[] #[.pointer (some ⟨Bp, 0, none⟩)], .int .i64 m] w (NewSl 30 2 C2 B w0 F ([] : List V2)) := by
  have lp : Bp < w.heap.size := World.block_lt_of_cell? _ _ hBp
  have hb2 : Below w.heap.size w ((w.alloc (.cells #[.int .i64 m] 3)).alloc (.cells #[.slice none 0 0] 98)) := ((Below.refl _ w).alloc (Nat.le_refl _) _).alloc (by simp) _
  have ht : ([] : List V2) = ([] : List V2).take m := by simp
  rw [ht]
  refine callsIn_wide.1 (told46_in B w0 F 87 _ [] m w hO (by simp) (enters_of Try.func87 (by kernel_rfl) rfl) ?_)
  intro l J Jx W hW hJ hJx hY h0
  have hbW := hb2.trans (hW.mono (by simp; omega))
  refine (callc_none l Bp p J W ((hbW.cell (p := ⟨Bp, 0, none⟩) lp).trans hBp) (cnone_z (hq.below hbW)) h0).mono ?_
  rintro e W' ⟨h1, h2⟩
  exact ⟨h1, .inl ⟨[], rfl, h2⟩⟩

abbrev zeroC : Obj := Obj.cells #[.bool false, .int .i64 0, .slice none 0 0, .slice none 0 0, .slice none 0 0, .bool false] 113 (0, 0)

end Go.Proofs.Ytidnkienkdlmkaa
