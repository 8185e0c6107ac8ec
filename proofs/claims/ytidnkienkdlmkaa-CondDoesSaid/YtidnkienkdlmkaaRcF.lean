/-
  Contract of shuttlelaw17.(ref).does. Conditions: few waiters; who waits for a mutex is a thread.
-/
import Derived.Test.YtidnkienkdlmkaaRcE
import Derived.Test.YtidnkienkdlmkaaCdH
namespace Go.Proofs.Ytidnkienkdlmkaa
open Go.RowKit Go.Sh
attribute [local go_sem ↓] Go.wp_at_zero Go.wp_at_succ

abbrev gobjR (bc b0 b1 : Nat) : Obj := Obj.cells #[.pointer (some ⟨bc, 0, none⟩), .pointer (some ⟨b0, 0, none⟩), .pointer (some ⟨b1, 0, none⟩)] 85 (0, 0)
theorem gor3 {w : World} {O bc b0 b1 : Nat} (h : w.heap[O]? = some (gobjR bc b0 b1)) : w.cell? ⟨O, 0, none⟩ = some (.pointer (some ⟨bc, 0, none⟩)) ∧ w.cell? ⟨O, 1, none⟩ = some (.pointer (some ⟨b0, 0, none⟩)) ∧ w.cell? ⟨O, 2, none⟩ = some (.pointer (some ⟨b1, 0, none⟩)) :=
  ⟨cell_of_get h 0, cell_of_get h 1, cell_of_get h 2⟩

/-- The document's world in block bx. -/
def Wr (bx bc b0 b1 : Nat) (s : KS) (L : List (Nat × Obj)) : Prop := ∃ Lk, L = (bx, gobjR bc b0 b1) :: Lk ∧ Kr bc b0 b1 s Lk

def RDoesPost (B : Nat) (w0 : World) (bx bc b0 b1 : Nat) (F : List (Nat × Obj)) (r : KR) (e : Ending) (w' : World) : Prop :=
  ∃ wk Lk L', e = .returned (.tuple #[outV r.done 0 0 r.fault wk, .int .i64 r.err]) ∧ Sl 38 4 W4 wk r.wakes Lk ∧ Wr bx bc b0 b1 r.st L' ∧ Own B w0 w' (L' ++ (Lk ++ F))

theorem rdoes_mk {B : Nat} {w0 : World} {bx bc b0 b1 : Nat} {F L' Lk : List (Nat × Obj)} {r r' : KR} {e : Ending} {w' : World} (wk : Value) (HR : Hid (r = r')) (he : e = .returned (.tuple #[outV r'.done 0 0 r'.fault wk, .int .i64 r'.err]))
    (hk : Sl 38 4 W4 wk r'.wakes Lk) (hM : Wr bx bc b0 b1 r'.st L') (hO : Own B w0 w' (L' ++ (Lk ++ F))) : RDoesPost B w0 bx bc b0 b1 F r e w' := by
  rw [HR.out]
  exact ⟨wk, Lk, L', he, hk, hM, hO⟩

set_option maxRecDepth 100000 in
set_option maxHeartbeats 4000000 in
theorem rdoes_lock_false (B : Nat) (w0 : World) (bx bc b0 b1 : Nat) (s : KS) (L F : List (Nat × Obj)) (who : Int) (w : World) (hW : Wr bx bc b0 b1 s L) (hO : Own B w0 w (L ++ F)) :
    Calls Try.prog 39 #[.pointer (some ⟨bx, 0, none⟩), .agg #[.int .i64 0, .int .i64 who, .bool false]] w (RDoesPost B w0 bx bc b0 b1 F (doesK s 0 who false)) := by
  obtain ⟨lr, hlr⟩ : ∃ r, (lockR (s.own false) (s.ws false) who) = r := ⟨_, rfl⟩
  have HR := Lib.hid (show doesK s 0 who false = ⟨lr.done, lr.fault, [], lr.err, s.put false lr.own lr.ws⟩ by rw [← hlr]; rfl)
  have HLR := Lib.hid hlr
  clear hlr
  obtain ⟨Lk, rfl, hK⟩ := hW
  have hbl : bx < w.heap.size := lt_of_get (hO.get (bx, gobjR bc b0 b1) (by simp))
  have hO3 := ((hO.allocAt (opbx 0 who false) (n := w.heap.size) rfl).allocAt kZ (n := w.heap.size + 1) (by simp)).shuf [[_], [_], [_], Lk, F] [3, 0, 1, 2, 4] rfl rfl
  clear hO
  go_enter Try.func39, Try.ntmps39
  go_upto_region 3 with fail
  obtain ⟨O, hOe⟩ : ∃ O, O = w.heap.size := ⟨_, rfl⟩
  obtain ⟨Z, hZe⟩ : ∃ Z, Z = w.heap.size + 1 := ⟨_, rfl⟩
  have hZO : Z ≠ O := by omega
  have hZX : Z ≠ bx := by omega
  rw [← hZe, ← hOe] at hO3
  rw [← hZe, ← hOe]
  clear hOe hZe
  generalize ((w.alloc (.cells #[.int .i64 0, .int .i64 who, .bool false] 61)).alloc (.cells #[.bool false, .int .i64 0, .int .i64 0, .int .i64 0, .slice none 0 0] 33)) = W at hO3 ⊢
  obtain ⟨o0, o1, o2⟩ := opb3 (hO3.get (O, opbx 0 who false) (by simp [cat]))
  have ol := lt_of_get (hO3.get (O, opbx 0 who false) (by simp [cat]))
  obtain ⟨g0, g1, g2⟩ := gor3 (hO3.get (bx, gobjR bc b0 b1) (by simp [cat]))
  have gl := lt_of_get (hO3.get (bx, gobjR bc b0 b1) (by simp [cat]))
  have hz := hO3.get (Z, kZ) (by simp [cat])
  obtain ⟨z0, z1, z2, z3, z4⟩ := z5 hz
  have zl := lt_of_get hz
  have zf := free_of_get hz
  clear hz
  obtain ⟨Lm, R, hsp, hM, _, hback⟩ := hK.mutex (B := B) (w0 := w0) false
  have hM2 : Rm b0 (s.own false) (s.ws false) Lm := hM
  obtain ⟨hM3, hP3⟩ := hM2
  have HP3 := Lib.hid hP3
  clear hP3
  have HP := Lib.hid (show ∀ x ∈ lr.ws, 0 ≤ x from by rw [← HLR.out]; exact lockR_pos (own := s.own false) who HP3.out)
  have HO := Lib.hid ((hsp _ _ hO3).junk (opbx 0 who false)).drew
  have HBACK := Lib.hid hback
  clear hsp hback hO3 z0 z1 z2 z3 z4 zl zf
  have hn1 := World.new_ne W _ o0
  have hn2 := World.new_ne W _ g1
  go_region_held3 (fun w' => w'.cell? ⟨O, 0, none⟩ = some (.int .i64 0) ∧ w'.cell? ⟨O, 1, none⟩ = some (.int .i64 who) ∧ w'.cell? ⟨O, 2, none⟩ = some (.bool false) ∧ w'.cell? ⟨bx, 1, none⟩ = some (.pointer (some ⟨b0, 0, none⟩)))
    (first
      | with_reducible exact ⟨k0, k1, k2, l1⟩
      | ((refine ⟨?_, ?_, ?_, ?_⟩ <;> repeat (first | (with_reducible assumption) | (with_reducible refine kdC ?_) | (with_reducible refine kpC ?_) | (with_reducible refine ksC ?_ ?_) | (dsimp only; omega))); done)
      | (go_keep; done)
      | fail "no keep")
    (first
      | (go_at_call 32; refine (one32 0 who false _).mono ?_; rintro e w2 ⟨rfl, rfl⟩)
      | (go_at_call 66; (with_reducible refine (rlock66 B w0 b0 (s.own false) (s.ws false) Lm _ who _ hM3 HO.out).mono ?_); rw [HLR.out]; rintro e w3 ⟨rfl, Lm', hM', hO4⟩; obtain ⟨L2, hK2, hb2⟩ := HBACK.out _ _ Lm' ⟨hM', HP.out⟩; have hO5 := hb2 w3 _ hO4; obtain ⟨k0, k1, k2⟩ := opb3 (hO5.get (O, opbx 0 who false) (by simp [cat])); obtain ⟨l0, l1, l2⟩ := gor3 (hO5.get (bx, gobjR bc b0 b1) (by simp [cat])); have hO6 := hO5.shuf [L2, [_], [_], [_], F] [1, 3, 0, 4, 2] rfl rfl; obtain ⟨z0, z1, z2, z3, z4⟩ := z5 hO6.head; have zf := free_of_get hO6.head; have zl := lt_of_get hO6.head)
      | fail "no arm")
  all_goals
    have hO7 := out5 hO6 (.bool lr.done) (.int .i64 0) (.int .i64 0) (.int .i64 lr.fault) (.slice none 0 0)
    obtain ⟨r0, r1, r2, r3, r4⟩ := z5 hO7.head
    have HO7 := Lib.hid (show Own B w0 _ ((((bx, gobjR bc b0 b1) :: L2) ++ (([] : List (Nat × Obj)) ++ F)) ++ [(O, opbx 0 who false)]) from by simpa [cat, List.append_assoc] using hO7.tail).left
    clear hO5 hO6 hO7
    go_wp2
    exact bodyPost_ret (v := .tuple #[outV lr.done 0 0 lr.fault (.slice none 0 0), .int .i64 lr.err]) (by simp [results, Try.results39, go_sem, r0, r1, r2, r3, r4]) rfl (rdoes_mk (Lk := ([] : List (Nat × Obj))) _ HR rfl Sl.nil ⟨L2, rfl, hK2⟩ HO7.out)

set_option maxRecDepth 100000 in
set_option maxHeartbeats 4000000 in
theorem rdoes_lock_true (B : Nat) (w0 : World) (bx bc b0 b1 : Nat) (s : KS) (L F : List (Nat × Obj)) (who : Int) (w : World) (hW : Wr bx bc b0 b1 s L) (hO : Own B w0 w (L ++ F)) :
    Calls Try.prog 39 #[.pointer (some ⟨bx, 0, none⟩), .agg #[.int .i64 0, .int .i64 who, .bool true]] w (RDoesPost B w0 bx bc b0 b1 F (doesK s 0 who true)) := by
  obtain ⟨lr, hlr⟩ : ∃ r, (lockR (s.own true) (s.ws true) who) = r := ⟨_, rfl⟩
  have HR := Lib.hid (show doesK s 0 who true = ⟨lr.done, lr.fault, [], lr.err, s.put true lr.own lr.ws⟩ by rw [← hlr]; rfl)
  have HLR := Lib.hid hlr
  clear hlr
  obtain ⟨Lk, rfl, hK⟩ := hW
  have hbl : bx < w.heap.size := lt_of_get (hO.get (bx, gobjR bc b0 b1) (by simp))
  have hO3 := ((hO.allocAt (opbx 0 who true) (n := w.heap.size) rfl).allocAt kZ (n := w.heap.size + 1) (by simp)).shuf [[_], [_], [_], Lk, F] [3, 0, 1, 2, 4] rfl rfl
  clear hO
  go_enter Try.func39, Try.ntmps39
  go_upto_region 3 with fail
  obtain ⟨O, hOe⟩ : ∃ O, O = w.heap.size := ⟨_, rfl⟩
  obtain ⟨Z, hZe⟩ : ∃ Z, Z = w.heap.size + 1 := ⟨_, rfl⟩
  have hZO : Z ≠ O := by omega
  have hZX : Z ≠ bx := by omega
  rw [← hZe, ← hOe] at hO3
  rw [← hZe, ← hOe]
  clear hOe hZe
  generalize ((w.alloc (.cells #[.int .i64 0, .int .i64 who, .bool true] 61)).alloc (.cells #[.bool false, .int .i64 0, .int .i64 0, .int .i64 0, .slice none 0 0] 33)) = W at hO3 ⊢
  obtain ⟨o0, o1, o2⟩ := opb3 (hO3.get (O, opbx 0 who true) (by simp [cat]))
  have ol := lt_of_get (hO3.get (O, opbx 0 who true) (by simp [cat]))
  obtain ⟨g0, g1, g2⟩ := gor3 (hO3.get (bx, gobjR bc b0 b1) (by simp [cat]))
  have gl := lt_of_get (hO3.get (bx, gobjR bc b0 b1) (by simp [cat]))
  have hz := hO3.get (Z, kZ) (by simp [cat])
  obtain ⟨z0, z1, z2, z3, z4⟩ := z5 hz
  have zl := lt_of_get hz
  have zf := free_of_get hz
  clear hz
  obtain ⟨Lm, R, hsp, hM, _, hback⟩ := hK.mutex (B := B) (w0 := w0) true
  have hM2 : Rm b1 (s.own true) (s.ws true) Lm := hM
  obtain ⟨hM3, hP3⟩ := hM2
  have HP3 := Lib.hid hP3
  clear hP3
  have HP := Lib.hid (show ∀ x ∈ lr.ws, 0 ≤ x from by rw [← HLR.out]; exact lockR_pos (own := s.own true) who HP3.out)
  have HO := Lib.hid ((hsp _ _ hO3).junk (opbx 0 who true)).drew
  have HBACK := Lib.hid hback
  clear hsp hback hO3 z0 z1 z2 z3 z4 zl zf
  have hn1 := World.new_ne W _ o0
  have hn2 := World.new_ne W _ g2
  go_region_held3 (fun w' => w'.cell? ⟨O, 0, none⟩ = some (.int .i64 0) ∧ w'.cell? ⟨O, 1, none⟩ = some (.int .i64 who) ∧ w'.cell? ⟨O, 2, none⟩ = some (.bool true) ∧ w'.cell? ⟨bx, 2, none⟩ = some (.pointer (some ⟨b1, 0, none⟩)))
    (first
      | with_reducible exact ⟨k0, k1, k2, l2⟩
      | ((refine ⟨?_, ?_, ?_, ?_⟩ <;> repeat (first | (with_reducible assumption) | (with_reducible refine kdC ?_) | (with_reducible refine kpC ?_) | (with_reducible refine ksC ?_ ?_) | (dsimp only; omega))); done)
      | (go_keep; done)
      | fail "no keep")
    (first
      | (go_at_call 32; refine (one32 0 who true _).mono ?_; rintro e w2 ⟨rfl, rfl⟩)
      | (go_at_call 66; (with_reducible refine (rlock66 B w0 b1 (s.own true) (s.ws true) Lm _ who _ hM3 HO.out).mono ?_); rw [HLR.out]; rintro e w3 ⟨rfl, Lm', hM', hO4⟩; obtain ⟨L2, hK2, hb2⟩ := HBACK.out _ _ Lm' ⟨hM', HP.out⟩; have hO5 := hb2 w3 _ hO4; obtain ⟨k0, k1, k2⟩ := opb3 (hO5.get (O, opbx 0 who true) (by simp [cat])); obtain ⟨l0, l1, l2⟩ := gor3 (hO5.get (bx, gobjR bc b0 b1) (by simp [cat])); have hO6 := hO5.shuf [L2, [_], [_], [_], F] [1, 3, 0, 4, 2] rfl rfl; obtain ⟨z0, z1, z2, z3, z4⟩ := z5 hO6.head; have zf := free_of_get hO6.head; have zl := lt_of_get hO6.head)
      | fail "no arm")
  all_goals
    have hO7 := out5 hO6 (.bool lr.done) (.int .i64 0) (.int .i64 0) (.int .i64 lr.fault) (.slice none 0 0)
    obtain ⟨r0, r1, r2, r3, r4⟩ := z5 hO7.head
    have HO7 := Lib.hid (show Own B w0 _ ((((bx, gobjR bc b0 b1) :: L2) ++ (([] : List (Nat × Obj)) ++ F)) ++ [(O, opbx 0 who true)]) from by simpa [cat, List.append_assoc] using hO7.tail).left
    clear hO5 hO6 hO7
    go_wp2
    exact bodyPost_ret (v := .tuple #[outV lr.done 0 0 lr.fault (.slice none 0 0), .int .i64 lr.err]) (by simp [results, Try.results39, go_sem, r0, r1, r2, r3, r4]) rfl (rdoes_mk (Lk := ([] : List (Nat × Obj))) _ HR rfl Sl.nil ⟨L2, rfl, hK2⟩ HO7.out)

set_option maxRecDepth 100000 in
set_option maxHeartbeats 4000000 in
theorem rdoes_unlock_false (B : Nat) (w0 : World) (bx bc b0 b1 : Nat) (s : KS) (L F : List (Nat × Obj)) (who : Int) (w : World) (hW : Wr bx bc b0 b1 s L) (hO : Own B w0 w (L ++ F)) :
    Calls Try.prog 39 #[.pointer (some ⟨bx, 0, none⟩), .agg #[.int .i64 1, .int .i64 who, .bool false]] w (RDoesPost B w0 bx bc b0 b1 F (doesK s 1 who false)) := by
  obtain ⟨lr, hlr⟩ : ∃ r, (unlockR (s.own false) (s.ws false) who) = r := ⟨_, rfl⟩
  have HR := Lib.hid (show doesK s 1 who false = ⟨lr.done, lr.fault, lr.wakes, lr.err, s.put false lr.own lr.ws⟩ by rw [← hlr]; rfl)
  have HLR := Lib.hid hlr
  clear hlr
  obtain ⟨Lk, rfl, hK⟩ := hW
  have hbl : bx < w.heap.size := lt_of_get (hO.get (bx, gobjR bc b0 b1) (by simp))
  have hO3 := ((hO.allocAt (opbx 1 who false) (n := w.heap.size) rfl).allocAt kZ (n := w.heap.size + 1) (by simp)).shuf [[_], [_], [_], Lk, F] [3, 0, 1, 2, 4] rfl rfl
  clear hO
  go_enter Try.func39, Try.ntmps39
  go_upto_region 5 with fail
  obtain ⟨O, hOe⟩ : ∃ O, O = w.heap.size := ⟨_, rfl⟩
  obtain ⟨Z, hZe⟩ : ∃ Z, Z = w.heap.size + 1 := ⟨_, rfl⟩
  have hZO : Z ≠ O := by omega
  have hZX : Z ≠ bx := by omega
  rw [← hZe, ← hOe] at hO3
  rw [← hZe, ← hOe]
  clear hOe hZe
  generalize ((w.alloc (.cells #[.int .i64 1, .int .i64 who, .bool false] 61)).alloc (.cells #[.bool false, .int .i64 0, .int .i64 0, .int .i64 0, .slice none 0 0] 33)) = W at hO3 ⊢
  obtain ⟨o0, o1, o2⟩ := opb3 (hO3.get (O, opbx 1 who false) (by simp [cat]))
  have ol := lt_of_get (hO3.get (O, opbx 1 who false) (by simp [cat]))
  obtain ⟨g0, g1, g2⟩ := gor3 (hO3.get (bx, gobjR bc b0 b1) (by simp [cat]))
  have gl := lt_of_get (hO3.get (bx, gobjR bc b0 b1) (by simp [cat]))
  have hz := hO3.get (Z, kZ) (by simp [cat])
  obtain ⟨z0, z1, z2, z3, z4⟩ := z5 hz
  have zl := lt_of_get hz
  have zf := free_of_get hz
  clear hz
  obtain ⟨Lm, R, hsp, hM, _, hback⟩ := hK.mutex (B := B) (w0 := w0) false
  have hM2 : Rm b0 (s.own false) (s.ws false) Lm := hM
  obtain ⟨hM3, hP3⟩ := hM2
  have HP3 := Lib.hid hP3
  clear hP3
  have HP := Lib.hid (show ∀ x ∈ lr.ws, 0 ≤ x from by rw [← HLR.out]; exact unlockR_pos (own := s.own false) who HP3.out)
  have HO := Lib.hid ((hsp _ _ hO3).junk (opbx 1 who false)).drew
  have HBACK := Lib.hid hback
  clear hsp hback hO3 z0 z1 z2 z3 z4 zl zf
  have hn1 := World.new_ne W _ o0
  have hn2 := World.new_ne W _ g1
  go_region_held3 (fun w' => w'.cell? ⟨O, 0, none⟩ = some (.int .i64 1) ∧ w'.cell? ⟨O, 1, none⟩ = some (.int .i64 who) ∧ w'.cell? ⟨O, 2, none⟩ = some (.bool false) ∧ w'.cell? ⟨bx, 1, none⟩ = some (.pointer (some ⟨b0, 0, none⟩)))
    (first
      | with_reducible exact ⟨k0, k1, k2, l1⟩
      | ((refine ⟨?_, ?_, ?_, ?_⟩ <;> repeat (first | (with_reducible assumption) | (with_reducible refine kdC ?_) | (with_reducible refine kpC ?_) | (with_reducible refine ksC ?_ ?_) | (dsimp only; omega))); done)
      | (go_keep; done)
      | fail "no keep")
    (first
      | (go_at_call 32; refine (one32 1 who false _).mono ?_; rintro e w2 ⟨rfl, rfl⟩)
      | (go_at_call 67; (with_reducible refine (runlock67 B w0 b0 (s.own false) (s.ws false) Lm _ who _ hM3 HP3.out HO.out).mono ?_); rw [HLR.out]; rintro e w3 ⟨wk, Lw, Lm', rfl, hSk, hM', hO4⟩; obtain ⟨ak, ck, rfl, _, _⟩ := hSk.form; obtain ⟨L2, hK2, hb2⟩ := HBACK.out _ _ Lm' ⟨hM', HP.out⟩; have hO5 := hb2 w3 (Lw ++ _) (hO4.shuf [Lm', Lw, R, _] [0, 2, 1, 3] rfl rfl); obtain ⟨k0, k1, k2⟩ := opb3 (hO5.get (O, opbx 1 who false) (by simp [cat])); obtain ⟨l0, l1, l2⟩ := gor3 (hO5.get (bx, gobjR bc b0 b1) (by simp [cat])); have hO6 := hO5.shuf [L2, Lw, [_], [_], [_], F] [2, 4, 0, 1, 5, 3] rfl rfl; obtain ⟨z0, z1, z2, z3, z4⟩ := z5 hO6.head; have zf := free_of_get hO6.head; have zl := lt_of_get hO6.head)
      | fail "no arm")
  all_goals
    have hO7 := out5 hO6 (.bool lr.done) (.int .i64 0) (.int .i64 0) (.int .i64 lr.fault) (.slice ak lr.wakes.length ck)
    obtain ⟨r0, r1, r2, r3, r4⟩ := z5 hO7.head
    have HO7 := Lib.hid (show Own B w0 _ ((((bx, gobjR bc b0 b1) :: L2) ++ (Lw ++ F)) ++ [(O, opbx 1 who false)]) from by simpa [cat, List.append_assoc] using hO7.tail).left
    clear hO5 hO6 hO7
    go_wp2
    exact bodyPost_ret (v := .tuple #[outV lr.done 0 0 lr.fault (.slice ak lr.wakes.length ck), .int .i64 lr.err]) (by simp [results, Try.results39, go_sem, r0, r1, r2, r3, r4]) rfl (rdoes_mk (Lk := Lw) _ HR rfl hSk ⟨L2, rfl, hK2⟩ HO7.out)

set_option maxRecDepth 100000 in
set_option maxHeartbeats 4000000 in
theorem rdoes_unlock_true (B : Nat) (w0 : World) (bx bc b0 b1 : Nat) (s : KS) (L F : List (Nat × Obj)) (who : Int) (w : World) (hW : Wr bx bc b0 b1 s L) (hO : Own B w0 w (L ++ F)) :
    Calls Try.prog 39 #[.pointer (some ⟨bx, 0, none⟩), .agg #[.int .i64 1, .int .i64 who, .bool true]] w (RDoesPost B w0 bx bc b0 b1 F (doesK s 1 who true)) := by
  obtain ⟨lr, hlr⟩ : ∃ r, (unlockR (s.own true) (s.ws true) who) = r := ⟨_, rfl⟩
  have HR := Lib.hid (show doesK s 1 who true = ⟨lr.done, lr.fault, lr.wakes, lr.err, s.put true lr.own lr.ws⟩ by rw [← hlr]; rfl)
  have HLR := Lib.hid hlr
  clear hlr
  obtain ⟨Lk, rfl, hK⟩ := hW
  have hbl : bx < w.heap.size := lt_of_get (hO.get (bx, gobjR bc b0 b1) (by simp))
  have hO3 := ((hO.allocAt (opbx 1 who true) (n := w.heap.size) rfl).allocAt kZ (n := w.heap.size + 1) (by simp)).shuf [[_], [_], [_], Lk, F] [3, 0, 1, 2, 4] rfl rfl
  clear hO
  go_enter Try.func39, Try.ntmps39
  go_upto_region 5 with fail
  obtain ⟨O, hOe⟩ : ∃ O, O = w.heap.size := ⟨_, rfl⟩
  obtain ⟨Z, hZe⟩ : ∃ Z, Z = w.heap.size + 1 := ⟨_, rfl⟩
  have hZO : Z ≠ O := by omega
  have hZX : Z ≠ bx := by omega
  rw [← hZe, ← hOe] at hO3
  rw [← hZe, ← hOe]
  clear hOe hZe
  generalize ((w.alloc (.cells #[.int .i64 1, .int .i64 who, .bool true] 61)).alloc (.cells #[.bool false, .int .i64 0, .int .i64 0, .int .i64 0, .slice none 0 0] 33)) = W at hO3 ⊢
  obtain ⟨o0, o1, o2⟩ := opb3 (hO3.get (O, opbx 1 who true) (by simp [cat]))
  have ol := lt_of_get (hO3.get (O, opbx 1 who true) (by simp [cat]))
  obtain ⟨g0, g1, g2⟩ := gor3 (hO3.get (bx, gobjR bc b0 b1) (by simp [cat]))
  have gl := lt_of_get (hO3.get (bx, gobjR bc b0 b1) (by simp [cat]))
  have hz := hO3.get (Z, kZ) (by simp [cat])
  obtain ⟨z0, z1, z2, z3, z4⟩ := z5 hz
  have zl := lt_of_get hz
  have zf := free_of_get hz
  clear hz
  obtain ⟨Lm, R, hsp, hM, _, hback⟩ := hK.mutex (B := B) (w0 := w0) true
  have hM2 : Rm b1 (s.own true) (s.ws true) Lm := hM
  obtain ⟨hM3, hP3⟩ := hM2
  have HP3 := Lib.hid hP3
  clear hP3
  have HP := Lib.hid (show ∀ x ∈ lr.ws, 0 ≤ x from by rw [← HLR.out]; exact unlockR_pos (own := s.own true) who HP3.out)
  have HO := Lib.hid ((hsp _ _ hO3).junk (opbx 1 who true)).drew
  have HBACK := Lib.hid hback
  clear hsp hback hO3 z0 z1 z2 z3 z4 zl zf
  have hn1 := World.new_ne W _ o0
  have hn2 := World.new_ne W _ g2
  go_region_held3 (fun w' => w'.cell? ⟨O, 0, none⟩ = some (.int .i64 1) ∧ w'.cell? ⟨O, 1, none⟩ = some (.int .i64 who) ∧ w'.cell? ⟨O, 2, none⟩ = some (.bool true) ∧ w'.cell? ⟨bx, 2, none⟩ = some (.pointer (some ⟨b1, 0, none⟩)))
    (first
      | with_reducible exact ⟨k0, k1, k2, l2⟩
      | ((refine ⟨?_, ?_, ?_, ?_⟩ <;> repeat (first | (with_reducible assumption) | (with_reducible refine kdC ?_) | (with_reducible refine kpC ?_) | (with_reducible refine ksC ?_ ?_) | (dsimp only; omega))); done)
      | (go_keep; done)
      | fail "no keep")
    (first
      | (go_at_call 32; refine (one32 1 who true _).mono ?_; rintro e w2 ⟨rfl, rfl⟩)
      | (go_at_call 67; (with_reducible refine (runlock67 B w0 b1 (s.own true) (s.ws true) Lm _ who _ hM3 HP3.out HO.out).mono ?_); rw [HLR.out]; rintro e w3 ⟨wk, Lw, Lm', rfl, hSk, hM', hO4⟩; obtain ⟨ak, ck, rfl, _, _⟩ := hSk.form; obtain ⟨L2, hK2, hb2⟩ := HBACK.out _ _ Lm' ⟨hM', HP.out⟩; have hO5 := hb2 w3 (Lw ++ _) (hO4.shuf [Lm', Lw, R, _] [0, 2, 1, 3] rfl rfl); obtain ⟨k0, k1, k2⟩ := opb3 (hO5.get (O, opbx 1 who true) (by simp [cat])); obtain ⟨l0, l1, l2⟩ := gor3 (hO5.get (bx, gobjR bc b0 b1) (by simp [cat])); have hO6 := hO5.shuf [L2, Lw, [_], [_], [_], F] [2, 4, 0, 1, 5, 3] rfl rfl; obtain ⟨z0, z1, z2, z3, z4⟩ := z5 hO6.head; have zf := free_of_get hO6.head; have zl := lt_of_get hO6.head)
      | fail "no arm")
  all_goals
    have hO7 := out5 hO6 (.bool lr.done) (.int .i64 0) (.int .i64 0) (.int .i64 lr.fault) (.slice ak lr.wakes.length ck)
    obtain ⟨r0, r1, r2, r3, r4⟩ := z5 hO7.head
    have HO7 := Lib.hid (show Own B w0 _ ((((bx, gobjR bc b0 b1) :: L2) ++ (Lw ++ F)) ++ [(O, opbx 1 who true)]) from by simpa [cat, List.append_assoc] using hO7.tail).left
    clear hO5 hO6 hO7
    go_wp2
    exact bodyPost_ret (v := .tuple #[outV lr.done 0 0 lr.fault (.slice ak lr.wakes.length ck), .int .i64 lr.err]) (by simp [results, Try.results39, go_sem, r0, r1, r2, r3, r4]) rfl (rdoes_mk (Lk := Lw) _ HR rfl hSk ⟨L2, rfl, hK2⟩ HO7.out)

set_option maxRecDepth 100000 in
set_option maxHeartbeats 4000000 in
theorem rdoes_wait_false (B : Nat) (w0 : World) (bx bc b0 b1 : Nat) (s : KS) (L F : List (Nat × Obj)) (who : Int) (w : World) (hW : Wr bx bc b0 b1 s L) (hO : Own B w0 w (L ++ F)) :
    Calls Try.prog 39 #[.pointer (some ⟨bx, 0, none⟩), .agg #[.int .i64 2, .int .i64 who, .bool false]] w (RDoesPost B w0 bx bc b0 b1 F (doesK s 2 who false)) := by
  obtain ⟨⟨kd, kf, kw, ke, kst⟩, hlr⟩ : ∃ r, waitK s who false = r := ⟨_, rfl⟩
  have HR := Lib.hid (show doesK s 2 who false = ⟨kd, kf, kw, ke, kst⟩ by rw [← hlr]; rfl)
  have HLR := Lib.hid hlr
  clear hlr
  obtain ⟨Lk, rfl, hK⟩ := hW
  have hbl : bx < w.heap.size := lt_of_get (hO.get (bx, gobjR bc b0 b1) (by simp))
  have hO3 := ((hO.allocAt (opbx 2 who false) (n := w.heap.size) rfl).allocAt kZ (n := w.heap.size + 1) (by simp)).shuf [[_], [_], [_], Lk, F] [3, 0, 1, 2, 4] rfl rfl
  clear hO
  go_enter Try.func39, Try.ntmps39
  go_upto_region 7 with fail
  obtain ⟨O, hOe⟩ : ∃ O, O = w.heap.size := ⟨_, rfl⟩
  obtain ⟨Z, hZe⟩ : ∃ Z, Z = w.heap.size + 1 := ⟨_, rfl⟩
  have hZO : Z ≠ O := by omega
  have hZX : Z ≠ bx := by omega
  rw [← hZe, ← hOe] at hO3
  rw [← hZe, ← hOe]
  clear hOe hZe
  generalize ((w.alloc (.cells #[.int .i64 2, .int .i64 who, .bool false] 61)).alloc (.cells #[.bool false, .int .i64 0, .int .i64 0, .int .i64 0, .slice none 0 0] 33)) = W at hO3 ⊢
  obtain ⟨o0, o1, o2⟩ := opb3 (hO3.get (O, opbx 2 who false) (by simp [cat]))
  have ol := lt_of_get (hO3.get (O, opbx 2 who false) (by simp [cat]))
  obtain ⟨g0, g1, g2⟩ := gor3 (hO3.get (bx, gobjR bc b0 b1) (by simp [cat]))
  have gl := lt_of_get (hO3.get (bx, gobjR bc b0 b1) (by simp [cat]))
  have hz := hO3.get (Z, kZ) (by simp [cat])
  obtain ⟨z0, z1, z2, z3, z4⟩ := z5 hz
  have zl := lt_of_get hz
  have zf := free_of_get hz
  clear hz
  have HO := Lib.hid (hO3.junk (opbx 2 who false)).drew
  clear hO3 z0 z1 z2 z3 z4 zl zf
  have hn1 := World.new_ne W _ o0
  have hn2 := World.new_ne W _ g1
  go_region_held3 (fun w' => w'.cell? ⟨O, 0, none⟩ = some (.int .i64 2) ∧ w'.cell? ⟨O, 1, none⟩ = some (.int .i64 who) ∧ w'.cell? ⟨O, 2, none⟩ = some (.bool false) ∧ w'.cell? ⟨bx, 0, none⟩ = some (.pointer (some ⟨bc, 0, none⟩)) ∧ w'.cell? ⟨bx, 1, none⟩ = some (.pointer (some ⟨b0, 0, none⟩)))
    (first
      | with_reducible exact ⟨k0, k1, k2, l0, l1⟩
      | ((refine ⟨?_, ?_, ?_, ?_, ?_⟩ <;> repeat (first | (with_reducible assumption) | (with_reducible refine kdC ?_) | (with_reducible refine kpC ?_) | (with_reducible refine ksC ?_ ?_) | (dsimp only; omega))); done)
      | (go_keep; done)
      | fail "no keep")
    (first
      | (go_at_call 32; refine (one32 2 who false _).mono ?_; rintro e w2 ⟨rfl, rfl⟩)
      | (go_at_call 76; refine (rwait76 B w0 bc b0 b1 s Lk _ who false _ hK HO.out).mono ?_; rw [HLR.out]; rintro e w3 ⟨wk, Lw, L2, rfl, hSk, hK2, hO5⟩; dsimp only at hSk hK2; obtain ⟨ak, ck, rfl, _, _⟩ := hSk.form; obtain ⟨k0, k1, k2⟩ := opb3 (hO5.get (O, opbx 2 who false) (by simp [cat])); obtain ⟨l0, l1, l2⟩ := gor3 (hO5.get (bx, gobjR bc b0 b1) (by simp [cat])); have hO6 := hO5.shuf [L2, Lw, [_], [_], [_], F] [2, 4, 0, 1, 5, 3] rfl rfl; obtain ⟨z0, z1, z2, z3, z4⟩ := z5 hO6.head; have zf := free_of_get hO6.head; have zl := lt_of_get hO6.head)
      | fail "no arm")
  all_goals
    have hO7 := out5 hO6 (.bool kd) (.int .i64 0) (.int .i64 0) (.int .i64 kf) (.slice ak kw.length ck)
    obtain ⟨r0, r1, r2, r3, r4⟩ := z5 hO7.head
    have HO7 := Lib.hid (show Own B w0 _ ((((bx, gobjR bc b0 b1) :: L2) ++ (Lw ++ F)) ++ [(O, opbx 2 who false)]) from by simpa [cat, List.append_assoc] using hO7.tail).left
    clear hO5 hO6 hO7
    go_wp2
    exact bodyPost_ret (v := .tuple #[outV kd 0 0 kf (.slice ak kw.length ck), .int .i64 ke]) (by simp [results, Try.results39, go_sem, r0, r1, r2, r3, r4]) rfl (rdoes_mk (Lk := Lw) _ HR rfl hSk ⟨L2, rfl, hK2⟩ HO7.out)

set_option maxRecDepth 100000 in
set_option maxHeartbeats 4000000 in
theorem rdoes_wait_true (B : Nat) (w0 : World) (bx bc b0 b1 : Nat) (s : KS) (L F : List (Nat × Obj)) (who : Int) (w : World) (hW : Wr bx bc b0 b1 s L) (hO : Own B w0 w (L ++ F)) :
    Calls Try.prog 39 #[.pointer (some ⟨bx, 0, none⟩), .agg #[.int .i64 2, .int .i64 who, .bool true]] w (RDoesPost B w0 bx bc b0 b1 F (doesK s 2 who true)) := by
  obtain ⟨⟨kd, kf, kw, ke, kst⟩, hlr⟩ : ∃ r, waitK s who true = r := ⟨_, rfl⟩
  have HR := Lib.hid (show doesK s 2 who true = ⟨kd, kf, kw, ke, kst⟩ by rw [← hlr]; rfl)
  have HLR := Lib.hid hlr
  clear hlr
  obtain ⟨Lk, rfl, hK⟩ := hW
  have hbl : bx < w.heap.size := lt_of_get (hO.get (bx, gobjR bc b0 b1) (by simp))
  have hO3 := ((hO.allocAt (opbx 2 who true) (n := w.heap.size) rfl).allocAt kZ (n := w.heap.size + 1) (by simp)).shuf [[_], [_], [_], Lk, F] [3, 0, 1, 2, 4] rfl rfl
  clear hO
  go_enter Try.func39, Try.ntmps39
  go_upto_region 7 with fail
  obtain ⟨O, hOe⟩ : ∃ O, O = w.heap.size := ⟨_, rfl⟩
  obtain ⟨Z, hZe⟩ : ∃ Z, Z = w.heap.size + 1 := ⟨_, rfl⟩
  have hZO : Z ≠ O := by omega
  have hZX : Z ≠ bx := by omega
  rw [← hZe, ← hOe] at hO3
  rw [← hZe, ← hOe]
  clear hOe hZe
  generalize ((w.alloc (.cells #[.int .i64 2, .int .i64 who, .bool true] 61)).alloc (.cells #[.bool false, .int .i64 0, .int .i64 0, .int .i64 0, .slice none 0 0] 33)) = W at hO3 ⊢
  obtain ⟨o0, o1, o2⟩ := opb3 (hO3.get (O, opbx 2 who true) (by simp [cat]))
  have ol := lt_of_get (hO3.get (O, opbx 2 who true) (by simp [cat]))
  obtain ⟨g0, g1, g2⟩ := gor3 (hO3.get (bx, gobjR bc b0 b1) (by simp [cat]))
  have gl := lt_of_get (hO3.get (bx, gobjR bc b0 b1) (by simp [cat]))
  have hz := hO3.get (Z, kZ) (by simp [cat])
  obtain ⟨z0, z1, z2, z3, z4⟩ := z5 hz
  have zl := lt_of_get hz
  have zf := free_of_get hz
  clear hz
  have HO := Lib.hid (hO3.junk (opbx 2 who true)).drew
  clear hO3 z0 z1 z2 z3 z4 zl zf
  have hn1 := World.new_ne W _ o0
  have hn2 := World.new_ne W _ g2
  go_region_held3 (fun w' => w'.cell? ⟨O, 0, none⟩ = some (.int .i64 2) ∧ w'.cell? ⟨O, 1, none⟩ = some (.int .i64 who) ∧ w'.cell? ⟨O, 2, none⟩ = some (.bool true) ∧ w'.cell? ⟨bx, 0, none⟩ = some (.pointer (some ⟨bc, 0, none⟩)) ∧ w'.cell? ⟨bx, 2, none⟩ = some (.pointer (some ⟨b1, 0, none⟩)))
    (first
      | with_reducible exact ⟨k0, k1, k2, l0, l2⟩
      | ((refine ⟨?_, ?_, ?_, ?_, ?_⟩ <;> repeat (first | (with_reducible assumption) | (with_reducible refine kdC ?_) | (with_reducible refine kpC ?_) | (with_reducible refine ksC ?_ ?_) | (dsimp only; omega))); done)
      | (go_keep; done)
      | fail "no keep")
    (first
      | (go_at_call 32; refine (one32 2 who true _).mono ?_; rintro e w2 ⟨rfl, rfl⟩)
      | (go_at_call 76; refine (rwait76 B w0 bc b0 b1 s Lk _ who true _ hK HO.out).mono ?_; rw [HLR.out]; rintro e w3 ⟨wk, Lw, L2, rfl, hSk, hK2, hO5⟩; dsimp only at hSk hK2; obtain ⟨ak, ck, rfl, _, _⟩ := hSk.form; obtain ⟨k0, k1, k2⟩ := opb3 (hO5.get (O, opbx 2 who true) (by simp [cat])); obtain ⟨l0, l1, l2⟩ := gor3 (hO5.get (bx, gobjR bc b0 b1) (by simp [cat])); have hO6 := hO5.shuf [L2, Lw, [_], [_], [_], F] [2, 4, 0, 1, 5, 3] rfl rfl; obtain ⟨z0, z1, z2, z3, z4⟩ := z5 hO6.head; have zf := free_of_get hO6.head; have zl := lt_of_get hO6.head)
      | fail "no arm")
  all_goals
    have hO7 := out5 hO6 (.bool kd) (.int .i64 0) (.int .i64 0) (.int .i64 kf) (.slice ak kw.length ck)
    obtain ⟨r0, r1, r2, r3, r4⟩ := z5 hO7.head
    have HO7 := Lib.hid (show Own B w0 _ ((((bx, gobjR bc b0 b1) :: L2) ++ (Lw ++ F)) ++ [(O, opbx 2 who true)]) from by simpa [cat, List.append_assoc] using hO7.tail).left
    clear hO5 hO6 hO7
    go_wp2
    exact bodyPost_ret (v := .tuple #[outV kd 0 0 kf (.slice ak kw.length ck), .int .i64 ke]) (by simp [results, Try.results39, go_sem, r0, r1, r2, r3, r4]) rfl (rdoes_mk (Lk := Lw) _ HR rfl hSk ⟨L2, rfl, hK2⟩ HO7.out)

set_option maxRecDepth 100000 in
set_option maxHeartbeats 4000000 in
theorem rdoes_signal (B : Nat) (w0 : World) (bx bc b0 b1 : Nat) (s : KS) (L F : List (Nat × Obj)) (who : Int) (m : Bool) (w : World) (hW : Wr bx bc b0 b1 s L) (hO : Own B w0 w (L ++ F)) :
    Calls Try.prog 39 #[.pointer (some ⟨bx, 0, none⟩), .agg #[.int .i64 3, .int .i64 who, .bool m]] w (RDoesPost B w0 bx bc b0 b1 F (doesK s 3 who m)) := by
  obtain ⟨⟨wn, st⟩, hlr⟩ : ∃ r, sevK (min s.q.length 1) s = r := ⟨_, rfl⟩
  have HR := Lib.hid (show doesK s 3 who m = ⟨true, 0, wn, 0, st⟩ by simp [doesK, hlr])
  have HLR := Lib.hid hlr
  clear hlr
  obtain ⟨Lk, rfl, hK⟩ := hW
  have hbl : bx < w.heap.size := lt_of_get (hO.get (bx, gobjR bc b0 b1) (by simp))
  have hO3 := ((hO.allocAt (opbx 3 who m) (n := w.heap.size) rfl).allocAt kZ (n := w.heap.size + 1) (by simp)).shuf [[_], [_], [_], Lk, F] [3, 0, 1, 2, 4] rfl rfl
  clear hO
  go_enter Try.func39, Try.ntmps39
  go_upto_region 9 with fail
  obtain ⟨O, hOe⟩ : ∃ O, O = w.heap.size := ⟨_, rfl⟩
  obtain ⟨Z, hZe⟩ : ∃ Z, Z = w.heap.size + 1 := ⟨_, rfl⟩
  have hZO : Z ≠ O := by omega
  have hZX : Z ≠ bx := by omega
  rw [← hZe, ← hOe] at hO3
  rw [← hZe, ← hOe]
  clear hOe hZe
  generalize ((w.alloc (.cells #[.int .i64 3, .int .i64 who, .bool m] 61)).alloc (.cells #[.bool false, .int .i64 0, .int .i64 0, .int .i64 0, .slice none 0 0] 33)) = W at hO3 ⊢
  obtain ⟨o0, o1, o2⟩ := opb3 (hO3.get (O, opbx 3 who m) (by simp [cat]))
  have ol := lt_of_get (hO3.get (O, opbx 3 who m) (by simp [cat]))
  obtain ⟨g0, g1, g2⟩ := gor3 (hO3.get (bx, gobjR bc b0 b1) (by simp [cat]))
  have gl := lt_of_get (hO3.get (bx, gobjR bc b0 b1) (by simp [cat]))
  have hz := hO3.get (Z, kZ) (by simp [cat])
  obtain ⟨z0, z1, z2, z3, z4⟩ := z5 hz
  have zl := lt_of_get hz
  have zf := free_of_get hz
  clear hz
  have HO := Lib.hid hO3
  clear hO3 z0 z1 z2 z3 z4 zl zf
  go_wp2_with fail
  refine (rsignal77 B w0 bc b0 b1 s Lk _ _ hK HO.out).mono ?_
  rw [HLR.out]
  rintro e w3 ⟨wk, Lw, L2, rfl, hSk, hK2, hO5⟩
  dsimp only at hSk hK2
  obtain ⟨ak, ck, rfl, _, _⟩ := hSk.form
  have hO6 := hO5.shuf [L2, Lw, [_], [_], [_], F] [2, 4, 0, 1, 5, 3] rfl rfl
  obtain ⟨z0, z1, z2, z3, z4⟩ := z5 hO6.head
  have zf := free_of_get hO6.head
  have zl := lt_of_get hO6.head
  have hO7 := out5 hO6 (.bool true) (.int .i64 0) (.int .i64 0) (.int .i64 0) (.slice ak wn.length ck)
  obtain ⟨r0, r1, r2, r3, r4⟩ := z5 hO7.head
  have HO7 := Lib.hid (show Own B w0 _ ((((bx, gobjR bc b0 b1) :: L2) ++ (Lw ++ F)) ++ [(O, opbx 3 who m)]) from by simpa [cat, List.append_assoc] using hO7.tail).left
  clear hO5 hO6 hO7
  go_wp2
  exact bodyPost_ret (v := .tuple #[outV true 0 0 0 (.slice ak wn.length ck), .int .i64 0]) (by simp [results, Try.results39, go_sem, r0, r1, r2, r3, r4]) rfl (rdoes_mk (Lk := Lw) _ HR rfl hSk ⟨L2, rfl, hK2⟩ HO7.out)

set_option maxRecDepth 100000 in
set_option maxHeartbeats 4000000 in
theorem rdoes_broadcast (B : Nat) (w0 : World) (bx bc b0 b1 : Nat) (s : KS) (L F : List (Nat × Obj)) (who : Int) (m : Bool) (w : World) (hW : Wr bx bc b0 b1 s L) (hO : Own B w0 w (L ++ F)) :
    Calls Try.prog 39 #[.pointer (some ⟨bx, 0, none⟩), .agg #[.int .i64 4, .int .i64 who, .bool m]] w (RDoesPost B w0 bx bc b0 b1 F (doesK s 4 who m)) := by
  obtain ⟨⟨wn, st⟩, hlr⟩ : ∃ r, sevK (s.q.length) s = r := ⟨_, rfl⟩
  have HR := Lib.hid (show doesK s 4 who m = ⟨true, 0, wn, 0, st⟩ by simp [doesK, hlr])
  have HLR := Lib.hid hlr
  clear hlr
  obtain ⟨Lk, rfl, hK⟩ := hW
  have hbl : bx < w.heap.size := lt_of_get (hO.get (bx, gobjR bc b0 b1) (by simp))
  have hO3 := ((hO.allocAt (opbx 4 who m) (n := w.heap.size) rfl).allocAt kZ (n := w.heap.size + 1) (by simp)).shuf [[_], [_], [_], Lk, F] [3, 0, 1, 2, 4] rfl rfl
  clear hO
  go_enter Try.func39, Try.ntmps39
  go_upto_region 11 with fail
  obtain ⟨O, hOe⟩ : ∃ O, O = w.heap.size := ⟨_, rfl⟩
  obtain ⟨Z, hZe⟩ : ∃ Z, Z = w.heap.size + 1 := ⟨_, rfl⟩
  have hZO : Z ≠ O := by omega
  have hZX : Z ≠ bx := by omega
  rw [← hZe, ← hOe] at hO3
  rw [← hZe, ← hOe]
  clear hOe hZe
  generalize ((w.alloc (.cells #[.int .i64 4, .int .i64 who, .bool m] 61)).alloc (.cells #[.bool false, .int .i64 0, .int .i64 0, .int .i64 0, .slice none 0 0] 33)) = W at hO3 ⊢
  obtain ⟨o0, o1, o2⟩ := opb3 (hO3.get (O, opbx 4 who m) (by simp [cat]))
  have ol := lt_of_get (hO3.get (O, opbx 4 who m) (by simp [cat]))
  obtain ⟨g0, g1, g2⟩ := gor3 (hO3.get (bx, gobjR bc b0 b1) (by simp [cat]))
  have gl := lt_of_get (hO3.get (bx, gobjR bc b0 b1) (by simp [cat]))
  have hz := hO3.get (Z, kZ) (by simp [cat])
  obtain ⟨z0, z1, z2, z3, z4⟩ := z5 hz
  have zl := lt_of_get hz
  have zf := free_of_get hz
  clear hz
  have HO := Lib.hid hO3
  clear hO3 z0 z1 z2 z3 z4 zl zf
  go_wp2_with fail
  refine (rbroadcast78 B w0 bc b0 b1 s Lk _ _ hK HO.out).mono ?_
  rw [HLR.out]
  rintro e w3 ⟨wk, Lw, L2, rfl, hSk, hK2, hO5⟩
  dsimp only at hSk hK2
  obtain ⟨ak, ck, rfl, _, _⟩ := hSk.form
  have hO6 := hO5.shuf [L2, Lw, [_], [_], [_], F] [2, 4, 0, 1, 5, 3] rfl rfl
  obtain ⟨z0, z1, z2, z3, z4⟩ := z5 hO6.head
  have zf := free_of_get hO6.head
  have zl := lt_of_get hO6.head
  have hO7 := out5 hO6 (.bool true) (.int .i64 0) (.int .i64 0) (.int .i64 0) (.slice ak wn.length ck)
  obtain ⟨r0, r1, r2, r3, r4⟩ := z5 hO7.head
  have HO7 := Lib.hid (show Own B w0 _ ((((bx, gobjR bc b0 b1) :: L2) ++ (Lw ++ F)) ++ [(O, opbx 4 who m)]) from by simpa [cat, List.append_assoc] using hO7.tail).left
  clear hO5 hO6 hO7
  go_wp2
  exact bodyPost_ret (v := .tuple #[outV true 0 0 0 (.slice ak wn.length ck), .int .i64 0]) (by simp [results, Try.results39, go_sem, r0, r1, r2, r3, r4]) rfl (rdoes_mk (Lk := Lw) _ HR rfl hSk ⟨L2, rfl, hK2⟩ HO7.out)

set_option maxRecDepth 100000 in
set_option maxHeartbeats 4000000 in
theorem rdoes_drop (B : Nat) (w0 : World) (bx bc b0 b1 : Nat) (s : KS) (L F : List (Nat × Obj)) (who : Int) (m : Bool) (w : World) (hW : Wr bx bc b0 b1 s L) (hO : Own B w0 w (L ++ F)) :
    Calls Try.prog 39 #[.pointer (some ⟨bx, 0, none⟩), .agg #[.int .i64 5, .int .i64 who, .bool m]] w (RDoesPost B w0 bx bc b0 b1 F (doesK s 5 who m)) := by
  obtain ⟨⟨ke, kst⟩, hlr⟩ : ∃ r, kdropK s who = r := ⟨_, rfl⟩
  have HR := Lib.hid (show doesK s 5 who m = ⟨false, 0, [], ke, kst⟩ by simp [doesK, hlr])
  have HLR := Lib.hid hlr
  clear hlr
  obtain ⟨Lk, rfl, hK⟩ := hW
  have hbl : bx < w.heap.size := lt_of_get (hO.get (bx, gobjR bc b0 b1) (by simp))
  have hO3 := ((hO.allocAt (opbx 5 who m) (n := w.heap.size) rfl).allocAt kZ (n := w.heap.size + 1) (by simp)).shuf [[_], [_], [_], Lk, F] [3, 0, 1, 2, 4] rfl rfl
  clear hO
  go_enter Try.func39, Try.ntmps39
  go_upto_region 13 with fail
  obtain ⟨O, hOe⟩ : ∃ O, O = w.heap.size := ⟨_, rfl⟩
  obtain ⟨Z, hZe⟩ : ∃ Z, Z = w.heap.size + 1 := ⟨_, rfl⟩
  have hZO : Z ≠ O := by omega
  have hZX : Z ≠ bx := by omega
  rw [← hZe, ← hOe] at hO3
  rw [← hZe, ← hOe]
  clear hOe hZe
  generalize ((w.alloc (.cells #[.int .i64 5, .int .i64 who, .bool m] 61)).alloc (.cells #[.bool false, .int .i64 0, .int .i64 0, .int .i64 0, .slice none 0 0] 33)) = W at hO3 ⊢
  obtain ⟨o0, o1, o2⟩ := opb3 (hO3.get (O, opbx 5 who m) (by simp [cat]))
  have ol := lt_of_get (hO3.get (O, opbx 5 who m) (by simp [cat]))
  obtain ⟨g0, g1, g2⟩ := gor3 (hO3.get (bx, gobjR bc b0 b1) (by simp [cat]))
  have gl := lt_of_get (hO3.get (bx, gobjR bc b0 b1) (by simp [cat]))
  have hz := hO3.get (Z, kZ) (by simp [cat])
  obtain ⟨z0, z1, z2, z3, z4⟩ := z5 hz
  have zl := lt_of_get hz
  have zf := free_of_get hz
  clear hz
  have HO := Lib.hid hO3.drew
  clear hO3
  go_region_held3 (fun w' => w'.cell? ⟨O, 0, none⟩ = some (.int .i64 5) ∧ w'.cell? ⟨O, 1, none⟩ = some (.int .i64 who) ∧ w'.cell? ⟨O, 2, none⟩ = some (.bool m) ∧ w'.cell? ⟨bx, 0, none⟩ = some (.pointer (some ⟨bc, 0, none⟩)))
    (first
      | with_reducible exact ⟨k0, k1, k2, l0⟩
      | ((refine ⟨?_, ?_, ?_, ?_⟩ <;> repeat (first | (with_reducible assumption) | (with_reducible refine kdC ?_) | (with_reducible refine kpC ?_) | (with_reducible refine ksC ?_ ?_) | (dsimp only; omega))); done)
      | (go_keep; done)
      | fail "no keep")
    (first
      | (go_at_call 79; refine (rdrop79 B w0 bc b0 b1 s Lk _ who _ hK HO.out).mono ?_; rw [HLR.out]; rintro e w3 ⟨rfl, L2, hK2, hO5⟩; dsimp only at hK2; obtain ⟨k0, k1, k2⟩ := opb3 (hO5.get (O, opbx 5 who m) (by simp [cat])); obtain ⟨l0, l1, l2⟩ := gor3 (hO5.get (bx, gobjR bc b0 b1) (by simp [cat])); have hO6 := hO5.shuf [L2, [_], [_], [_], F] [1, 3, 0, 4, 2] rfl rfl; obtain ⟨z0, z1, z2, z3, z4⟩ := z5 hO6.head; have zf := free_of_get hO6.head; have zl := lt_of_get hO6.head)
      | fail "no arm")
  all_goals
    have hO7 := out5 hO6 (.bool false) (.int .i64 0) (.int .i64 0) (.int .i64 0) (.slice none 0 0)
    obtain ⟨r0, r1, r2, r3, r4⟩ := z5 hO7.head
    have HO7 := Lib.hid (show Own B w0 _ ((((bx, gobjR bc b0 b1) :: L2) ++ (([] : List (Nat × Obj)) ++ F)) ++ [(O, opbx 5 who m)]) from by simpa [cat, List.append_assoc] using hO7.tail).left
    clear hO5 hO6 hO7
    go_wp2
    exact bodyPost_ret (v := .tuple #[outV false 0 0 0 (.slice none 0 0), .int .i64 ke]) (by simp [results, Try.results39, go_sem, r0, r1, r2, r3, r4]) rfl (rdoes_mk (Lk := ([] : List (Nat × Obj))) _ HR rfl Sl.nil ⟨L2, rfl, hK2⟩ HO7.out)

set_option maxRecDepth 100000 in
set_option maxHeartbeats 4000000 in
theorem rdoes_else (B : Nat) (w0 : World) (bx bc b0 b1 : Nat) (s : KS) (L F : List (Nat × Obj)) (d who : Int) (m : Bool) (w : World) (hW : Wr bx bc b0 b1 s L) (hO : Own B w0 w (L ++ F)) (hd : d < 0 ∨ 5 < d) :
    Calls Try.prog 39 #[.pointer (some ⟨bx, 0, none⟩), .agg #[.int .i64 d, .int .i64 who, .bool m]] w (RDoesPost B w0 bx bc b0 b1 F (doesK s d who m)) := by
  have HR := Lib.hid (show doesK s d who m = ⟨false, 0, [], 0, s⟩ by unfold doesK; rw [if_neg (by omega), if_neg (by omega), if_neg (by omega), if_neg (by omega), if_neg (by omega), if_neg (by omega)])
  have e0 : (d == 0) = false := by simp; omega
  have e1 : (d == 1) = false := by simp; omega
  have e2 : (d == 2) = false := by simp; omega
  have e3 : (d == 3) = false := by simp; omega
  have e4 : (d == 4) = false := by simp; omega
  have e5 : (d == 5) = false := by simp; omega
  obtain ⟨Lk, rfl, hK⟩ := hW
  have hbl : bx < w.heap.size := lt_of_get (hO.get (bx, gobjR bc b0 b1) (by simp))
  have hO3 := ((hO.allocAt (opbx d who m) (n := w.heap.size) rfl).allocAt kZ (n := w.heap.size + 1) (by simp)).shuf [[_], [_], [_], Lk, F] [3, 0, 1, 2, 4] rfl rfl
  clear hO
  go_enter Try.func39, Try.ntmps39
  go_upto_region 14 with fail
  obtain ⟨O, hOe⟩ : ∃ O, O = w.heap.size := ⟨_, rfl⟩
  obtain ⟨Z, hZe⟩ : ∃ Z, Z = w.heap.size + 1 := ⟨_, rfl⟩
  have hZO : Z ≠ O := by omega
  have hZX : Z ≠ bx := by omega
  rw [← hZe, ← hOe] at hO3
  rw [← hZe, ← hOe]
  clear hOe hZe
  generalize ((w.alloc (.cells #[.int .i64 d, .int .i64 who, .bool m] 61)).alloc (.cells #[.bool false, .int .i64 0, .int .i64 0, .int .i64 0, .slice none 0 0] 33)) = W at hO3 ⊢
  obtain ⟨o0, o1, o2⟩ := opb3 (hO3.get (O, opbx d who m) (by simp [cat]))
  have ol := lt_of_get (hO3.get (O, opbx d who m) (by simp [cat]))
  obtain ⟨g0, g1, g2⟩ := gor3 (hO3.get (bx, gobjR bc b0 b1) (by simp [cat]))
  have gl := lt_of_get (hO3.get (bx, gobjR bc b0 b1) (by simp [cat]))
  have hz := hO3.get (Z, kZ) (by simp [cat])
  obtain ⟨z0, z1, z2, z3, z4⟩ := z5 hz
  have zl := lt_of_get hz
  have zf := free_of_get hz
  clear hz
  have hK2 := hK
  obtain ⟨L2, hL2⟩ : ∃ L2, L2 = Lk := ⟨_, rfl⟩
  rw [← hL2] at hK2 hO3
  clear hL2
  have hO6 := hO3.shuf [L2, [_], [_], [_], F] [1, 3, 0, 4, 2] rfl rfl
  have hO7 := out5 hO6 (.bool false) (.int .i64 0) (.int .i64 0) (.int .i64 0) (.slice none 0 0)
  obtain ⟨r0, r1, r2, r3, r4⟩ := z5 hO7.head
  have HO7 := Lib.hid (show Own B w0 _ ((((bx, gobjR bc b0 b1) :: L2) ++ (([] : List (Nat × Obj)) ++ F)) ++ [(O, opbx d who m)]) from by simpa [cat, List.append_assoc] using hO7.tail).left
  clear hO6 hO7
  go_wp2
  exact bodyPost_ret (v := .tuple #[outV false 0 0 0 (.slice none 0 0), .int .i64 0]) (by simp [results, Try.results39, go_sem, r0, r1, r2, r3, r4]) rfl (rdoes_mk (Lk := ([] : List (Nat × Obj))) _ HR rfl Sl.nil ⟨L2, rfl, hK2⟩ HO7.out)

theorem rdoes39 (B : Nat) (w0 : World) (bx bc b0 b1 : Nat) (s : KS) (L F : List (Nat × Obj)) (d who : Int) (m : Bool) (w : World) (hW : Wr bx bc b0 b1 s L) (hO : Own B w0 w (L ++ F)) :
    Calls Try.prog 39 #[.pointer (some ⟨bx, 0, none⟩), .agg #[.int .i64 d, .int .i64 who, .bool m]] w (RDoesPost B w0 bx bc b0 b1 F (doesK s d who m)) := by
  by_cases h0 : d = 0
  · subst h0; cases m with
    | false => exact rdoes_lock_false B w0 bx bc b0 b1 s L F who w hW hO
    | true => exact rdoes_lock_true B w0 bx bc b0 b1 s L F who w hW hO
  by_cases h1 : d = 1
  · subst h1; cases m with
    | false => exact rdoes_unlock_false B w0 bx bc b0 b1 s L F who w hW hO
    | true => exact rdoes_unlock_true B w0 bx bc b0 b1 s L F who w hW hO
  by_cases h2 : d = 2
  · subst h2; cases m with
    | false => exact rdoes_wait_false B w0 bx bc b0 b1 s L F who w hW hO
    | true => exact rdoes_wait_true B w0 bx bc b0 b1 s L F who w hW hO
  by_cases h3 : d = 3
  · subst h3; exact rdoes_signal B w0 bx bc b0 b1 s L F who m w hW hO
  by_cases h4 : d = 4
  · subst h4; exact rdoes_broadcast B w0 bx bc b0 b1 s L F who m w hW hO
  by_cases h5 : d = 5
  · subst h5; exact rdoes_drop B w0 bx bc b0 b1 s L F who m w hW hO
  exact rdoes_else B w0 bx bc b0 b1 s L F d who m w hW hO (by omega)

end Go.Proofs.Ytidnkienkdlmkaa

