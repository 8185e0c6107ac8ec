/-
  spec: contracts of num, awake. No condition.
-/
import Derived.Test.YtojcojoleodjmaaSpJ
namespace Go.Proofs.Ytojcojoleodjmaa
open Go.RowKit Go.Shelf Go.Sh
attribute [local go_sem ↓] Go.wp_at_zero Go.wp_at_succ

theorem num42 (n : Int) (w : World) : Calls Try.prog 42 #[.int .i64 n] w fun e w' => e = .returned (.agg #[.int .i64 1, .int .i64 n]) ∧ w' = w.alloc (.cells #[.int .i64 1, .int .i64 n] 77) := by
  go_enter Try.func42, Try.ntmps42
  go_wp2
  refine bodyPost_ret (v := .agg #[.int .i64 1, .int .i64 n]) (by simp [results, Try.results42, go_sem]) rfl ?_
  exact ⟨rfl, by simp⟩

def xsA : List C6 := [⟨1, 1, ⟨1, 5⟩, 1, 4⟩, ⟨2, 2, ⟨1, 5⟩, 2, 3⟩]
def xsB : List C6 := [⟨1, 1, ⟨1, 5⟩, 3, 4⟩, ⟨2, 2, ⟨1, 5⟩, 1, 2⟩]
theorem lin_xsA : (linR 1 xsA).a = [0, 1] ∧ (linR 1 xsA).ok = true ∧ (linR 1 xsA).e = 0 := by decide +kernel
theorem lin_xsB : (linR 1 xsB).a = [] ∧ (linR 1 xsB).ok = false ∧ (linR 1 xsB).e = 0 := by decide +kernel

abbrev obA : Obj := Obj.cells #[.int .i64 1, .int .i64 1, .int .i64 1, .int .i64 5, .int .i64 1, .int .i64 4, .int .i64 2, .int .i64 2, .int .i64 1, .int .i64 5, .int .i64 2, .int .i64 3] 80 (0, 0)
abbrev obB : Obj := Obj.cells #[.int .i64 1, .int .i64 1, .int .i64 1, .int .i64 5, .int .i64 3, .int .i64 4, .int .i64 2, .int .i64 2, .int .i64 1, .int .i64 5, .int .i64 1, .int .i64 2] 80 (0, 0)
theorem rda_A (B : Nat) (w0 : World) (F : List (Nat × Obj)) (g : Nat) : RdA B w0 ((g, obA) :: F) (.slice (some ⟨g, 0, none⟩) 2 2) xsA := fun w' hw' => by
  have hS : Sl 80 6 CC (.slice (some ⟨g, 0, none⟩) 2 2) xsA [(g, obA)] := .inr ⟨g, 0, 2, _, rfl, rfl, by simp [xsA], by simp [maxLen], by simp, by simp [xsA]⟩
  exact sl_rd6 hS (fun p hp => by simp at hp; subst hp; exact hw'.get _ (by simp))
theorem rda_B (B : Nat) (w0 : World) (F : List (Nat × Obj)) (g : Nat) : RdA B w0 ((g, obB) :: F) (.slice (some ⟨g, 0, none⟩) 2 2) xsB := fun w' hw' => by
  have hS : Sl 80 6 CC (.slice (some ⟨g, 0, none⟩) 2 2) xsB [(g, obB)] := .inr ⟨g, 0, 2, _, rfl, rfl, by simp [xsB], by simp [maxLen], by simp, by simp [xsB]⟩
  exact sl_rd6 hS (fun p hp => by simp at hp; subst hp; exact hw'.get _ (by simp))
theorem awk_set {B : Nat} {w0 w : World} {g : Nat} {L F : List (Nat × Obj)} (h : Sh.Own B w0 w (L ++ ((g, obA) :: F))) : Sh.Own B w0 ((((w.setCell ⟨g, 4, none⟩ (.int .i64 3)).setCell ⟨g, 5, none⟩ (.int .i64 4)).setCell ⟨g, 10, none⟩ (.int .i64 1)).setCell ⟨g, 11, none⟩ (.int .i64 2)) ((g, obB) :: (L ++ F)) := by
  have h0 : Sh.Own B w0 w ((g, obA) :: (L ++ F)) := h.shuf [L, [_], F] [1, 0, 2] rfl rfl
  exact (((h0.setTo 4 (.int .i64 3) rfl).setTo 5 (.int .i64 4) rfl).setTo 10 (.int .i64 1) rfl).setTo 11 (.int .i64 2) rfl

set_option maxRecDepth 100000 in
set_option maxHeartbeats 4000000 in
theorem awake30 (B : Nat) (w0 : World) (F : List (Nat × Obj)) (w : World) (hO : Sh.Own B w0 w F) : Calls Try.prog 30 #[] w (BoolD B w0 F true) := by
  have hO1 := ((hO.junk (.cells #[.int .i64 1, .int .i64 5] 77)).junk (.cells #[.int .i64 1, .int .i64 5] 77)).allocAt obA (n := w.heap.size + 1 + 1) (by simp)
  have HC1 := Lib.hid (linear32 B w0 _ 1 _ 2 2 xsA _ (rda_A B w0 F (w.heap.size + 1 + 1)) hO1 (by omega) (by decide))
  obtain ⟨ra, rb, rc⟩ := lin_xsA
  obtain ⟨sa, sb, sc⟩ := lin_xsB
  have HA := Lib.hid ra
  have HB := Lib.hid rb
  have HC := Lib.hid rc
  have GA := Lib.hid sa
  have GB := Lib.hid sb
  have GC := Lib.hid sc
  clear hO hO1 ra rb rc sa sb sc
  go_enter Try.func30, Try.ntmps30
  go_wp2_with (first
    | (go_at_call 42; refine (num42 5 _).mono ?_; rintro e w' ⟨rfl, rfl⟩)
    | (go_at_call 32; refine HC1.out.mono ?_; rintro e w2 ⟨v, L', rfl, hS, hO2⟩; rw [HB.out, HC.out]; rw [HA.out] at hS; have hg := hO2.get (w.heap.size + 1 + 1, obA) (by simp); have c4 := cell_of_get hg 4; have c5 := cell_of_get hg 5; have c10 := cell_of_get hg 10; have c11 := cell_of_get hg 11; have gf := free_of_get hg; have gl := lt_of_get hg; have HO2 := Lib.hid (awk_set hO2); have HS := Lib.hid hS; clear hO2 hg hS HC1))
  refine (linear32 B w0 _ 1 _ 2 2 xsB _ (rda_B B w0 (L' ++ F) (w.heap.size + 1 + 1)) HO2.out (by omega) (by decide)).mono ?_
  rintro e w4 ⟨v2, L2, rfl, hS2, hO4⟩
  rw [GB.out, GC.out]
  have hO5 := hO4.allocAt (Obj.cells #[.int .i64 0, .int .i64 1] 3 (0, 0)) (n := w4.heap.size) rfl
  have hN : Sl 3 1 I (.slice (some ⟨w4.heap.size, 0, none⟩) 2 2) [0, 1] [(w4.heap.size, Obj.cells #[.int .i64 0, .int .i64 1] 3 (0, 0))] := .inr ⟨w4.heap.size, 0, 2, _, rfl, rfl, by simp, by simp [maxLen], by simp, by simp⟩
  have he := equal20 B w0 F [0, 1] [0, 1] v (.slice (some ⟨w4.heap.size, 0, none⟩) 2 2) _ (sl_rd6 HS.out (fun p hp => hO5.get p (by simp [hp]))) (sl_rd6 hN (fun p hp => by simp at hp; subst hp; exact hO5.head)) hO5.tail.right.tail.right (by simp) (by simp)
  rw [show decide (([0, 1] : List Int) = [0, 1]) = true from rfl] at he
  have HE := Lib.hid he
  clear he hN hO5 hO4 hS2 c4 c5 c10 c11 gf gl HO2
  go_wp2_with (go_at_call 20; refine HE.out.mono ?_; rintro e w6 ⟨rfl, hO6⟩)
  go_ret
  exact ⟨rfl, hO6⟩

end Go.Proofs.Ytojcojoleodjmaa
