/-
  Queues that no call made: the contracts. No condition.
-/
import Derived.Test.YtojcojoleodjmaaRqTold
namespace Go.Proofs.Ytojcojoleodjmaa
open Go.RowKit Go.Shelf Go.Sh

attribute [local go_sem] Oper.semAt_some

/-- Queues that no call made: nil, or zero. -/
def NoneQ (w : World) (p : Option Addr) : Prop := p = none ∨ ∃ b, p = some ⟨b, 0, none⟩ ∧ w.cell? ⟨b, 0, none⟩ = some (.int .i64 0)

theorem NoneQ.below {w w' : World} {p : Option Addr} (h : NoneQ w p) (hb : Below w.heap.size w w') : NoneQ w' p := by
  rcases h with h | ⟨b, h, hc⟩
  · exact .inl h
  · exact .inr ⟨b, h, (hb.cell (p := ⟨b, 0, none⟩) (World.block_lt_of_cell? _ _ hc)).trans hc⟩

theorem none_z {w : World} {p : Option Addr} (h : NoneQ w p) : Calls Try.prog 49 #[.pointer p] w fun e w' => e = .returned (.bool true) ∧ w = w' := by
  rcases h with rfl | ⟨b, rfl, hc⟩
  · go_enter Try.func49, Try.ntmps49
    go_wp2
    go_ret
    exact ⟨rfl, rfl⟩
  · go_enter Try.func49, Try.ntmps49
    go_wp2
    go_ret
    exact ⟨rfl, rfl⟩

theorem may_z {w : World} {p : Option Addr} (worker : Int) (h : NoneQ w p) : Calls Try.prog 45 #[.pointer p, .int .i64 worker] w fun e w' => e = .returned (.int .i64 2) ∧ w = w' := by
  have H := Lib.hid h
  clear h
  go_enter Try.func45, Try.ntmps45
  go_wp2_with (go_at_call 49; refine (none_z H.out).mono ?_; rintro e w' ⟨rfl, rfl⟩)
  go_ret
  exact ⟨rfl, rfl⟩

theorem push_z {w : World} {p : Option Addr} (worker who : Int) (h : NoneQ w p) : Calls Try.prog 15 #[.pointer p, .int .i64 worker, .int .i64 who] w fun e w' => e = .returned (.int .i64 2) ∧ w = w' := by
  have H := Lib.hid h
  clear h
  go_enter Try.func15, Try.ntmps15
  go_wp2_with (go_at_call 45; refine (may_z worker H.out).mono ?_; rintro e w' ⟨rfl, rfl⟩)
  go_ret
  exact ⟨rfl, rfl⟩

theorem next_z {w : World} {p : Option Addr} (worker : Int) (h : NoneQ w p) : Calls Try.prog 16 #[.pointer p, .int .i64 worker] w fun e w' => e = .returned (.tuple #[.int .i64 0, .int .i64 2]) ∧ w = w' := by
  have H := Lib.hid h
  clear h
  go_enter Try.func16, Try.ntmps16
  go_wp2_with (go_at_call 45; refine (may_z worker H.out).mono ?_; rintro e w' ⟨rfl, rfl⟩)
  exact bodyPost_ret (v := .tuple #[.int .i64 0, .int .i64 2]) (by simp [results, Try.results16, go_sem]) rfl ⟨rfl, rfl⟩

theorem drop_z {w : World} {p : Option Addr} (who : Int) (h : NoneQ w p) : Calls Try.prog 17 #[.pointer p, .int .i64 who] w fun e w' => e = .returned (.int .i64 2) ∧ w = w' := by
  have H := Lib.hid h
  clear h
  go_enter Try.func17, Try.ntmps17
  go_wp2_with (go_at_call 49; refine (none_z H.out).mono ?_; rintro e w' ⟨rfl, rfl⟩)
  go_ret
  exact ⟨rfl, rfl⟩

theorem len_z {w : World} {p : Option Addr} (h : NoneQ w p) : Calls Try.prog 18 #[.pointer p] w fun e w' => e = .returned (.int .i64 0) ∧ w = w' := by
  have H := Lib.hid h
  clear h
  go_enter Try.func18, Try.ntmps18
  go_wp2_with (go_at_call 49; refine (none_z H.out).mono ?_; rintro e w' ⟨rfl, rfl⟩)
  go_ret
  exact ⟨rfl, rfl⟩

theorem stolen_z {w : World} {p : Option Addr} (h : NoneQ w p) : Calls Try.prog 23 #[.pointer p] w fun e w' => e = .returned (.int .i64 0) ∧ w = w' := by
  have H := Lib.hid h
  clear h
  go_enter Try.func23, Try.ntmps23
  go_wp2_with (go_at_call 49; refine (none_z H.out).mono ?_; rintro e w' ⟨rfl, rfl⟩)
  go_ret
  exact ⟨rfl, rfl⟩

theorem clone_z {w : World} {p : Option Addr} (h : NoneQ w p) : Calls Try.prog 24 #[.pointer p] w fun e w' => e = .returned (.pointer none) ∧ w = w' := by
  have H := Lib.hid h
  clear h
  go_enter Try.func24, Try.ntmps24
  go_wp2_with (go_at_call 49; refine (none_z H.out).mono ?_; rintro e w' ⟨rfl, rfl⟩)
  go_ret
  exact ⟨rfl, rfl⟩

set_option maxRecDepth 100000 in
set_option maxHeartbeats 1000000 in
theorem allc_z (l Bp Bw : Nat) (p : Option Addr) (worker : Int) (J : List Int → World → Prop) (W : World) (hBp : W.cell? ⟨Bp, 0, none⟩ = some (.pointer p)) (hBw : W.cell? ⟨Bw, 0, none⟩ = some (.int .i64 worker))
    (hq : NoneQ W p) (h0 : J [] W) :
    CallsIn Fence.wide 3 Try.prog 51 #[.func (.yield l) #[] #[], .pointer (some ⟨Bp, 0, none⟩), .pointer (some ⟨Bw, 0, none⟩)] W fun e W' => (∃ v, e = .returned v) ∧ J [] W' := by
  have HQ := Lib.hid hq
  have H0 := Lib.hid h0
  clear hq h0
  refine callsIn_of_wp Try.func51 rfl trivial ?_ rfl
  simp only [Try.ntmps51, List.size_toArray, List.length_cons, List.length_nil, Nat.reduceAdd, Nat.reduceSub, Array.replicate_succ, Array.replicate_zero, List.push_toArray, List.append_toArray, List.nil_append, List.cons_append]
  gi_wp2_with (refine ⟨trivial, ?_⟩; gi_at_call 45; refine (callsIn_wide.2 (may_z worker HQ.out)).mono ?_; rintro e w' ⟨rfl, rfl⟩)
  refine bodyPost_ret (results_none rfl _ _ _) rfl ?_
  exact ⟨⟨_, rfl⟩, H0.out⟩

theorem told_z (B : Nat) (w0 : World) (F : List (Nat × Obj)) (p : Option Addr) (worker : Int) (Bp Bw m : Nat) (w : World) (hq : NoneQ w p) (hO : Sh.Own B w0 w F)
    (hBp : w.cell? ⟨Bp, 0, none⟩ = some (.pointer p)) (hBw : w.cell? ⟨Bw, 0, none⟩ = some (.int .i64 worker)) :
    Calls Try.prog 21 #[.func (.func 51) #[] #[.pointer (some ⟨Bp, 0, none⟩), .pointer (some ⟨Bw, 0, none⟩)], .int .i64 m] w (NewSl 3 1 I B w0 F ([] : List Int)) := by
  have lp : Bp < w.heap.size := World.block_lt_of_cell? _ _ hBp
  have lw : Bw < w.heap.size := World.block_lt_of_cell? _ _ hBw
  have hb2 : Below w.heap.size w ((w.alloc (.cells #[.int .i64 m] 3)).alloc (.cells #[.slice none 0 0] 28)) := ((Below.refl _ w).alloc (Nat.le_refl _) _).alloc (by simp) _
  have ht : ([] : List Int) = ([] : List Int).take m := by simp
  rw [ht]
  refine callsIn_wide.1 (told_in B w0 F 51 _ [] m w hO (by simp) (enters_of Try.func51 (by kernel_rfl) rfl) ?_)
  intro l J Jx W hW hJ hJx hY h0
  have hbW := hb2.trans (hW.mono (by simp; omega))
  refine (allc_z l Bp Bw p worker J W ((hbW.cell (p := ⟨Bp, 0, none⟩) lp).trans hBp) ((hbW.cell (p := ⟨Bw, 0, none⟩) lw).trans hBw) (hq.below hbW) h0).mono ?_
  rintro e W' ⟨h1, h2⟩
  exact ⟨h1, .inl ⟨[], rfl, h2⟩⟩

end Go.Proofs.Ytojcojoleodjmaa
