/-
  Contract of shuttlelaw15.awake: it returns true. No condition.
-/
import Derived.Test.YtidnkienkdlmkaaChRecv
import Derived.Test.YtidnkienkdlmkaaChWho
import Derived.Test.YtidnkienkdlmkaaSame
namespace Go.Proofs.Ytidnkienkdlmkaa
open Go.RowKit Go.Sh

theorem value49 (d who n : Int) (w : World) : Calls Try.prog 49 #[.agg #[.int .i64 d, .int .i64 who, .int .i64 n]] w fun e w' => e = .returned (.agg #[.int .i64 1, .int .i64 n]) ∧
    w' = (w.alloc (.cells #[.int .i64 d, .int .i64 who, .int .i64 n] 96)).alloc (.cells #[.int .i64 1, .int .i64 n] 30) := by
  go_enter Try.func49, Try.ntmps49
  go_wp2
  refine bodyPost_ret (v := .agg #[.int .i64 1, .int .i64 n]) (by simp [results, Try.results49, go_sem]) rfl ⟨rfl, rfl⟩

abbrev outO (d : Bool) (t n f : Int) (wk : Value) : Obj := Obj.cells #[.bool d, .int .i64 t, .int .i64 n, .int .i64 f, wk] 33 (0, 0)

set_option maxRecDepth 100000 in
set_option maxHeartbeats 4000000 in
theorem awake42 (B : Nat) (w0 : World) (F : List (Nat × Obj)) (w : World) (hO : Own B w0 w F) :
    Calls Try.prog 42 #[] w fun e w' => e = .returned (.bool true) ∧ Own B w0 w' F := by
  have h0 := hO.alloc (cobj 1 (.slice none 0 0) (.slice none 0 0) (.slice none 0 0) false)
  have h1 := (((h0.junk (.cells #[.int .i64 0, .int .i64 0, .int .i64 5] 96)).junk (.cells #[.int .i64 1, .int .i64 5] 30)).junk (.cells #[.int .i64 0, .int .i64 0, .int .i64 6] 96)).junk (.cells #[.int .i64 1, .int .i64 6] 30)
  have h2 := (h1.allocAt (box30 ⟨1, 5⟩) (n := w.heap.size + 1 + 1 + 1 + 1 + 1) (by simp)).allocAt (box30 ⟨1, 6⟩) (n := w.heap.size + 1 + 1 + 1 + 1 + 1 + 1) (by simp)
  have h3 := h2.shuf [[_], [_], [_], F] [2, 1, 0, 3] rfl rfl
  have HO1 := Lib.hid h3
  clear h0 h1 h2 h3 hO
  have hX0 := Lib.hid (Cx.new w.heap.size 1 (by omega) (by omega))
  go_enter Try.func42, Try.ntmps42
  go_wp2_with (first | (go_at_call 41; refine (cnew41 1 _ (by omega) (by omega)).mono ?_; rintro e w' ⟨rfl, rfl⟩) | (go_at_call 49; refine (value49 0 0 _ _).mono ?_; rintro e w' ⟨rfl, rfl⟩))
  refine (csend B w0 w.heap.size (csNew 1) _ _ 1 ⟨1, 5⟩ _ hX0.out HO1.out).mono ?_
  rw [show sendC (csNew 1) 1 ⟨1, 5⟩ = ⟨true, ⟨0, 0⟩, 0, [], 0, ⟨1, [⟨1, 5⟩], [], [], false⟩⟩ from rfl]
  rintro e w1 ⟨wk1, K1, C1, rfl, hK1, hX1, hO2⟩
  dsimp only at hK1 hX1 ⊢
  obtain ⟨a1, c1, rfl, _, _⟩ := hK1.form
  generalize hpa : w.heap.size + 1 + 1 + 1 + 1 + 1 = pa at hO2 ⊢
  clear hpa HO1 hX0
  have hO3 := (hO2.alloc (outO true 0 0 0 (.slice a1 0 c1))).shuf [[_], C1, K1, [_], [_], F] [1, 2, 0, 3, 4, 5] rfl rfl
  have hbb := hO3.get (pa + 1, box30 ⟨1, 6⟩) (by simp [cat])
  have hbo := hO2.get (pa + 1, box30 ⟨1, 6⟩) (by simp [cat])
  have b0 : w1.cell? ⟨pa + 1, 0, none⟩ = some (.int .i64 1) := cell_of_get hbo 0
  have b1 : w1.cell? ⟨pa + 1, 1, none⟩ = some (.int .i64 6) := cell_of_get hbo 1
  have bl := lt_of_get hbo
  have bl1 : pa + 1 < w1.heap.size + 1 := by omega
  clear hbb hbo hO2
  go_wp2_with fail
  refine (csend B w0 w.heap.size _ C1 _ 2 ⟨1, 6⟩ _ hX1 hO3).mono ?_
  rw [show sendC ⟨1, [⟨1, 5⟩], [], [], false⟩ 2 ⟨1, 6⟩ = ⟨false, ⟨0, 0⟩, 0, [], 0, ⟨1, [⟨1, 5⟩], [⟨2, 1, 6⟩], [], false⟩⟩ from rfl]
  rintro e w2 ⟨wk2, K2, C2', rfl, hK2, hX2, hO4⟩
  dsimp only at hK2 hX2 ⊢
  obtain ⟨a2, c2, rfl, _, _⟩ := hK2.form
  have hO5 := (hO4.alloc (outO false 0 0 0 (.slice a2 0 c2))).shuf [[_], C2', K2, K1, [_], [_], [_], F] [1, 2, 0, 3, 4, 5, 6, 7] rfl rfl
  clear hO3 hO4 b0 b1 bl bl1 hX1
  generalize hp1 : w1.heap.size = px at hO5 ⊢
  clear hp1
  go_wp2_with fail
  refine (crecv B w0 w.heap.size _ C2' _ 3 _ hX2 hO5).mono ?_
  rw [show recvC ⟨1, [⟨1, 5⟩], [⟨2, 1, 6⟩], [], false⟩ 3 = ⟨true, ⟨1, 5⟩, 0, [⟨2, 0, 0, 0⟩], 0, ⟨1, [⟨1, 6⟩], [], [], false⟩⟩ from rfl]
  rintro e w3 ⟨wk3, K3, C3', rfl, hK3, hX3, hO6⟩
  dsimp only at hK3 hX3 ⊢
  obtain ⟨a3, c3, rfl, _, _⟩ := hK3.form
  generalize hp2 : w2.heap.size = py at hO6 ⊢
  clear hp2 hO5 hX2
  have hx := hO6.get (px, outO true 0 0 0 (.slice a1 0 c1)) (by simp [cat])
  have hy := hO6.get (py, outO false 0 0 0 (.slice a2 0 c2)) (by simp [cat])
  have ha := hO6.get (pa, box30 ⟨1, 5⟩) (by simp [cat])
  have x0 : w3.cell? ⟨px, 0, none⟩ = some (.bool true) := cell_of_get hx 0
  have y0 : w3.cell? ⟨py, 0, none⟩ = some (.bool false) := cell_of_get hy 0
  have a0 : w3.cell? ⟨pa, 0, none⟩ = some (.int .i64 1) := cell_of_get ha 0
  have a1' : w3.cell? ⟨pa, 1, none⟩ = some (.int .i64 5) := cell_of_get ha 1
  have lx := lt_of_get hx
  have ly := lt_of_get hy
  have la := lt_of_get ha
  have lx1 : px < w3.heap.size + 1 := by omega
  have ly1 : py < w3.heap.size + 1 := by omega
  have la1 : pa < w3.heap.size + 1 := by omega
  have hO7 := (hO6.junk (outO true 1 5 0 (.slice a3 1 c3))).allocAt (Obj.cells #[.int .i64 2, .int .i64 0, .int .i64 0, .int .i64 0] 38 (0, 0)) (n := w3.heap.size + 1) (by simp)
  have hr1 := Sl_rd hK3 (fun p hp => hO7.get p (by simp [hp]))
  have hr2 := Sl_rd (slK (w3.heap.size + 1) ⟨2, 0, 0, 0⟩) (fun p hp => hO7.get p (by simp at hp; subst hp; simp))
  have HO7 := Lib.hid hO7
  have HR1 := Lib.hid hr1
  have HR2 := Lib.hid hr2
  clear hx hy ha hO6 hO7 hr1 hr2
  go_wp2_with (first | (go_at_call 24; refine (same24 B w0 _ true 1 5 0 [⟨2, 0, 0, 0⟩] _ _ _ HR1.out HR2.out HO7.out (by simp)).mono ?_; rintro e w4 ⟨rfl, hO8⟩; have hg8 := Lib.hid (show ∀ p ∈ C3', w4.heap[p.1]? = some p.2 from fun p hp => hO8.get p (by simp [hp]))) | (go_at_call 53; refine (clen w.heap.size _ C3' _ hX3 hg8.out).mono ?_; rintro e w5 ⟨rfl, rfl⟩))
  go_ret
  have hz : Own B w0 w4 ((px, outO true 0 0 0 (.slice a1 0 c1)) :: (pa, box30 ⟨1, 5⟩) :: (pa + 1, box30 ⟨1, 6⟩) :: F) := hO8.tail.right.right.right.right.right
  exact ⟨rfl, hz.tail.tail.tail⟩

end Go.Proofs.Ytidnkienkdlmkaa
