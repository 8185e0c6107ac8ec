/-
  Contract of Send. Conditions: at most 64 values, 256 waiters.
-/
import Derived.Test.YtidnkienkdlmkaaChB
import Derived.Deep.RegionHeld3
import Derived.BigQuiet
namespace Go.Proofs.Ytidnkienkdlmkaa
open Go.RowKit Go.Sh
attribute [local go_sem ↓] Go.wp_at_zero Go.wp_at_succ

/-- An act's answer, and the channel behind it. -/
structure CR : Type where
  done : Bool
  v : V2
  fault : Int
  wakes : List Wk
  err : Int
  st : CS

def sendC (s : CS) (who : Int) (x : V2) : CR :=
  if mayC s who = 1 then ⟨false, ⟨0, 0⟩, 0, [], 1, s⟩
  else if s.shut = true then ⟨false, ⟨0, 0⟩, 11, [], 0, s⟩
  else match s.rcv with
    | y :: r => ⟨true, ⟨0, 0⟩, 0, [⟨y.who, x.t, x.n, 0⟩], 0, ⟨s.room, s.vals, s.snd, r, s.shut⟩⟩
    | [] => if (s.vals.length : Int) < s.room then ⟨true, ⟨0, 0⟩, 0, [], 0, ⟨s.room, s.vals ++ [x], s.snd, s.rcv, s.shut⟩⟩
      else if 256 ≤ s.snd.length then ⟨false, ⟨0, 0⟩, 0, [], 7, s⟩
      else ⟨false, ⟨0, 0⟩, 0, [], 0, ⟨s.room, s.vals, s.snd ++ [⟨who, x.t, x.n⟩], s.rcv, s.shut⟩⟩

def COutPost (B : Nat) (w0 : World) (b : Nat) (F : List (Nat × Obj)) (r : CR) (e : Ending) (w' : World) : Prop :=
  ∃ wk Lk L', e = .returned (.tuple #[outV r.done r.v.t r.v.n r.fault wk, .int .i64 r.err]) ∧ Sl 38 4 W4 wk r.wakes Lk ∧ Cx b r.st L' ∧ Own B w0 w' (L' ++ (Lk ++ F))

theorem cout_mk {B : Nat} {w0 : World} {b : Nat} {F L' Lk : List (Nat × Obj)} {r r' : CR} {e : Ending} {w' : World} (wk : Value) (HR : Hid (r = r')) (he : e = .returned (.tuple #[outV r'.done r'.v.t r'.v.n r'.fault wk, .int .i64 r'.err]))
    (hk : Sl 38 4 W4 wk r'.wakes Lk) (hM : Cx b r'.st L') (hO : Own B w0 w' (L' ++ (Lk ++ F))) : COutPost B w0 b F r e w' := by
  rw [HR.out]
  exact ⟨wk, Lk, L', he, hk, hM, hO⟩

section
variable {B : Nat} {w0 w : World} {c : Nat × Obj} {L1 L2 L3 R : List (Nat × Obj)}
theorem own_flat (h : Own B w0 w ((c :: (L1 ++ (L2 ++ L3))) ++ R)) : Own B w0 w (c :: (L1 ++ (L2 ++ (L3 ++ R)))) := by simpa [List.append_assoc] using h
theorem own_pack (h : Own B w0 w (c :: (L1 ++ (L2 ++ (L3 ++ R))))) : Own B w0 w ((c :: (L1 ++ (L2 ++ L3))) ++ R) := by simpa [List.append_assoc] using h

theorem own_flat2 {X Y : Nat × Obj} (h : Own B w0 w (X :: Y :: ((c :: (L1 ++ (L2 ++ L3))) ++ R))) : Own B w0 w (X :: Y :: c :: (L1 ++ (L2 ++ (L3 ++ R)))) := by simpa [List.append_assoc] using h

/-- The result's cells are stored. -/
theorem out5 {z : Nat} {a0 a1 a2 a3 a4 : Value} (h : Own B w0 w ((z, Obj.cells #[a0, a1, a2, a3, a4] 33 (0, 0)) :: R)) (d t n f k : Value) :
    Own B w0 (((((w.setCell ⟨z, 0, none⟩ d).setCell ⟨z, 1, none⟩ t).setCell ⟨z, 2, none⟩ n).setCell ⟨z, 3, none⟩ f).setCell ⟨z, 4, none⟩ k) ((z, Obj.cells #[d, t, n, f, k] 33 (0, 0)) :: R) :=
  ((((h.setTo 0 d rfl).setTo 1 t rfl).setTo 2 n rfl).setTo 3 f rfl).setTo 4 k rfl

theorem z5 {z : Nat} {a0 a1 a2 a3 a4 : Value} (h : w.heap[z]? = some (Obj.cells #[a0, a1, a2, a3, a4] 33 (0, 0))) : w.cell? ⟨z, 0, none⟩ = some a0 ∧ w.cell? ⟨z, 1, none⟩ = some a1 ∧ w.cell? ⟨z, 2, none⟩ = some a2 ∧ w.cell? ⟨z, 3, none⟩ = some a3 ∧ w.cell? ⟨z, 4, none⟩ = some a4 :=
  ⟨cell_of_get h 0, cell_of_get h 1, cell_of_get h 2, cell_of_get h 3, cell_of_get h 4⟩
end

theorem slK (g : Nat) (k : Wk) : Sl 38 4 W4 (.slice (some ⟨g, 0, none⟩) 1 1) [k] [(g, Obj.cells #[.int .i64 k.who, .int .i64 k.t, .int .i64 k.n, .int .i64 k.f] 38 (0, 0))] :=
  .inr ⟨g, 0, 1, _, rfl, rfl, Nat.le_refl _, by unfold maxLen; omega, Nat.le_refl 4, rfl⟩

abbrev box30 (x : V2) : Obj := Obj.cells #[.int .i64 x.t, .int .i64 x.n] 30 (0, 0)


set_option maxRecDepth 100000 in
set_option maxHeartbeats 4000000 in
theorem csend_bad (B : Nat) (w0 : World) (b : Nat) (s : CS) (L F : List (Nat × Obj)) (who : Int) (x : V2) (w : World) (hX : Cx b s L) (hO : Own B w0 w (L ++ F)) (h1 : mayC s who = 1) :
    Calls Try.prog 44 #[.pointer (some ⟨b, 0, none⟩), .int .i64 who, .agg #[.int .i64 x.t, .int .i64 x.n]] w (COutPost B w0 b F (sendC s who x)) := by
  have hOF : Own B w0 ((w.alloc (box30 x)).alloc outZ) ((w.heap.size + 1, outZ) :: (w.heap.size, box30 x) :: (L ++ F)) := (hO.alloc (box30 x)).allocAt outZ (n := w.heap.size + 1) (by simp)
  have HR := Lib.hid (show sendC s who x = ⟨false, ⟨0, 0⟩, 0, [], 1, s⟩ by simp [sendC, h1])
  have H1 := Lib.hid h1
  clear h1 hO
  go_enter Try.func44, Try.ntmps44
  go_wp2_with (go_at_call 80; refine (cmay B w0 b s _ _ who _ hX (fun p hp => List.mem_cons_of_mem _ (List.mem_cons_of_mem _ (List.mem_append_left _ hp))) hOF).mono ?_; rintro e w1 ⟨rfl, hO1⟩; rw [H1.out]; have hz := hO1.get (w.heap.size + 1, outZ) (by simp); obtain ⟨z0, z1, z2, z3, z4⟩ := z5 hz; have zf := free_of_get hz; have zl := lt_of_get hz; clear hz)
  have hO9 := (out5 hO1 (.bool false) (.int .i64 0) (.int .i64 0) (.int .i64 0) (.slice none 0 0))
  have rr := z5 (hO9.get (w.heap.size + 1, Obj.cells #[.bool false, .int .i64 0, .int .i64 0, .int .i64 0, (.slice none 0 0)] 33 (0, 0)) (by simp))
  obtain ⟨r0, r1, r2, r3, r4⟩ := rr
  have HO9 := Lib.hid hO9.tail
  clear hO9 z0 z1 z2 z3 z4 hO1
  refine bodyPost_ret (v := .tuple #[outV false 0 0 0 (.slice none 0 0), .int .i64 1]) (by simp [results, Try.results44, go_sem, r0, r1, r2, r3, r4]) rfl ?_
  exact cout_mk _ HR rfl Sl.nil hX HO9.out.tail

set_option maxRecDepth 100000 in
set_option maxHeartbeats 4000000 in
theorem csend_shut (B : Nat) (w0 : World) (b : Nat) (s : CS) (L F : List (Nat × Obj)) (who : Int) (x : V2) (w : World) (hX : Cx b s L) (hO : Own B w0 w (L ++ F)) (h1 : mayC s who = 0) (h2 : s.shut = true) :
    Calls Try.prog 44 #[.pointer (some ⟨b, 0, none⟩), .int .i64 who, .agg #[.int .i64 x.t, .int .i64 x.n]] w (COutPost B w0 b F (sendC s who x)) := by
  have hOF : Own B w0 ((w.alloc (box30 x)).alloc outZ) ((w.heap.size + 1, outZ) :: (w.heap.size, box30 x) :: (L ++ F)) := (hO.alloc (box30 x)).allocAt outZ (n := w.heap.size + 1) (by simp)
  have HR := Lib.hid (show sendC s who x = ⟨false, ⟨0, 0⟩, 11, [], 0, s⟩ by simp [sendC, h1, h2])
  have H1 := Lib.hid h1
  have hX' := hX
  obtain ⟨v1, v2, v3, L1, L2, L3, hC, rfl⟩ := hX'
  have H2 := Lib.hid h2
  clear h1 h2 hO
  go_enter Try.func44, Try.ntmps44
  go_wp2_with (first | (go_at_call 80; refine (cmay B w0 b s _ _ who _ hX (fun p hp => List.mem_cons_of_mem _ (List.mem_cons_of_mem _ (List.mem_append_left _ hp))) hOF).mono ?_; rintro e w1 ⟨rfl, hO1⟩; rw [H1.out]; have hz := hO1.get (w.heap.size + 1, outZ) (by simp); obtain ⟨z0, z1, z2, z3, z4⟩ := z5 hz; have zf := free_of_get hz; have zl := lt_of_get hz; clear hz; have hcb := hO1.get (b, cobj s.room v1 v2 v3 s.shut) (by simp); have c5 : w1.cell? ⟨b, 5, none⟩ = some (.bool s.shut) := cell_of_get hcb 5; have hbl := lt_of_get hcb; clear hcb; rw [H2.out] at c5) | (go_at_call 81; refine (cshut _).mono ?_; rintro e w2 ⟨rfl, rfl⟩))
  have hO9 := (out5 hO1 (.bool false) (.int .i64 0) (.int .i64 0) (.int .i64 11) (.slice none 0 0)).junk (.cells #[.bool false, .int .i64 0, .int .i64 0, .int .i64 11, .slice none 0 0] 33)
  have rr := z5 (hO9.get (w.heap.size + 1, Obj.cells #[.bool false, .int .i64 0, .int .i64 0, .int .i64 11, (.slice none 0 0)] 33 (0, 0)) (by simp))
  obtain ⟨r0, r1, r2, r3, r4⟩ := rr
  have HO9 := Lib.hid hO9.tail
  clear hO9 z0 z1 z2 z3 z4 hO1
  refine bodyPost_ret (v := .tuple #[outV false 0 0 11 (.slice none 0 0), .int .i64 0]) (by simp [results, Try.results44, go_sem, r0, r1, r2, r3, r4]) rfl ?_
  exact cout_mk _ HR rfl Sl.nil hX HO9.out.tail

set_option maxRecDepth 100000 in
set_option maxHeartbeats 4000000 in
theorem csend_rcv (B : Nat) (w0 : World) (b : Nat) (s : CS) (L F : List (Nat × Obj)) (who : Int) (x : V2) (w : World) (hX : Cx b s L) (hO : Own B w0 w (L ++ F)) (h1 : mayC s who = 0) (h2 : s.shut = false) (y : W3) (r : List W3) (h3 : s.rcv = y :: r) :
    Calls Try.prog 44 #[.pointer (some ⟨b, 0, none⟩), .int .i64 who, .agg #[.int .i64 x.t, .int .i64 x.n]] w (COutPost B w0 b F (sendC s who x)) := by
  have hOF : Own B w0 ((w.alloc (box30 x)).alloc outZ) ((w.heap.size + 1, outZ) :: (w.heap.size, box30 x) :: (L ++ F)) := (hO.alloc (box30 x)).allocAt outZ (n := w.heap.size + 1) (by simp)
  have HR := Lib.hid (show sendC s who x = ⟨true, ⟨0, 0⟩, 0, [⟨y.who, x.t, x.n, 0⟩], 0, ⟨s.room, s.vals, s.snd, r, s.shut⟩⟩ by simp [sendC, h1, h2, h3])
  have H1 := Lib.hid h1
  have hX' := hX
  obtain ⟨v1, v2, v3, L1, L2, L3, hC, rfl⟩ := hX'
  have H2 := Lib.hid h2
  have hs3 := Lib.hid (h3 ▸ hC.s3)
  have hl3 : r.length ≤ 256 := by have := hC.l3; rw [h3] at this; simp at this; omega
  clear h1 h2 h3 hO
  go_enter Try.func44, Try.ntmps44
  go_wp2_with (go_at_call 80; refine (cmay B w0 b s _ _ who _ hX (fun p hp => List.mem_cons_of_mem _ (List.mem_cons_of_mem _ (List.mem_append_left _ hp))) hOF).mono ?_; rintro e w1 ⟨rfl, hO1⟩; rw [H1.out]; have hcb := hO1.get (b, cobj s.room v1 v2 v3 s.shut) (by simp); have c5 : w1.cell? ⟨b, 5, none⟩ = some (.bool s.shut) := cell_of_get hcb 5; have hbl := lt_of_get hcb; clear hcb; rw [H2.out] at c5)
  have hO2 := (own_flat2 hO1).shuf [[_], [_], [_], L1, L2, L3, F] [5, 2, 3, 4, 0, 1, 6] rfl rfl
  clear hO1 hOF c5
  refine (take82_some B w0 b 4 113 _ y r v3 L3 _ _ hs3.out rfl hO2).mono ?_
  rintro e w2 ⟨rfl, v', L', hS', hO3⟩
  have hZ := hO3.shuf [L', [_], L1, L2, [_], [_], F] [4, 1, 2, 3, 0, 6, 5] rfl rfl
  have hz := hZ.head
  obtain ⟨z0, z1, z2, z3, z4⟩ := z5 hz
  have zf := free_of_get hz
  have zl := lt_of_get hz
  have hbx := hZ.get (w.heap.size, box30 x) (by simp [cat])
  have b0 : w2.cell? ⟨w.heap.size, 0, none⟩ = some (.int .i64 x.t) := cell_of_get hbx 0
  have b1 : w2.cell? ⟨w.heap.size, 1, none⟩ = some (.int .i64 x.n) := cell_of_get hbx 1
  have bl := lt_of_get hbx
  have bl1 : w.heap.size < w2.heap.size + 1 := by omega
  have zl1 : w.heap.size + 1 < w2.heap.size + 1 := by omega
  clear hz hbx hO2 hO3
  go_wp2_with (go_at_call 83; refine (cdone 0 0 _ 1 1 _).mono ?_; rintro e w5 ⟨rfl, rfl⟩)
  have hO9 := ((((out5 hZ (.bool true) (.int .i64 0) (.int .i64 0) (.int .i64 0) (.slice (some ⟨w2.heap.size + 1, 0, none⟩) 1 1)).junk (.cells #[.int .i64 y.who, .int .i64 y.t, .int .i64 y.n] 136)).allocAt (.cells #[.int .i64 y.who, .int .i64 x.t, .int .i64 x.n, .int .i64 0] 38) (n := w2.heap.size + 1) (by simp)).junk (.cells #[.int .i64 0, .int .i64 0] 30)).junk (.cells #[.bool true, .int .i64 0, .int .i64 0, .int .i64 0, .slice (some ⟨w2.heap.size + 1, 0, none⟩) 1 1] 33)
  have rr := z5 (hO9.get (w.heap.size + 1, Obj.cells #[.bool true, .int .i64 0, .int .i64 0, .int .i64 0, (.slice (some ⟨w2.heap.size + 1, 0, none⟩) 1 1)] 33 (0, 0)) (by simp))
  obtain ⟨r0, r1, r2, r3, r4⟩ := rr
  have HO9 := Lib.hid (own_pack (L1 := L1) (L2 := L2) (L3 := L') (R := [_] ++ F) ((hO9.shuf [[_], [_], [_], L1, L2, L', F, [_]] [1, 7, 2, 3, 4, 5, 0, 6] rfl rfl).tail.tail))
  clear hO9 z0 z1 z2 z3 z4 hZ
  refine bodyPost_ret (v := .tuple #[outV true 0 0 0 (.slice (some ⟨w2.heap.size + 1, 0, none⟩) 1 1), .int .i64 0]) (by simp [results, Try.results44, go_sem, r0, r1, r2, r3, r4]) rfl ?_
  exact cout_mk _ HR rfl (slK (w2.heap.size + 1) ⟨y.who, x.t, x.n, 0⟩) ⟨v1, v2, v', L1, L2, L', ⟨hC.s1, hC.s2, hS', hC.l1, hC.l2, hl3, hC.r0, hC.r1⟩, rfl⟩ HO9.out

set_option maxRecDepth 100000 in
set_option maxHeartbeats 4000000 in
theorem csend_room (B : Nat) (w0 : World) (b : Nat) (s : CS) (L F : List (Nat × Obj)) (who : Int) (x : V2) (w : World) (hX : Cx b s L) (hO : Own B w0 w (L ++ F)) (h1 : mayC s who = 0) (h2 : s.shut = false) (h3 : s.rcv = []) (h4 : (s.vals.length : Int) < s.room) :
    Calls Try.prog 44 #[.pointer (some ⟨b, 0, none⟩), .int .i64 who, .agg #[.int .i64 x.t, .int .i64 x.n]] w (COutPost B w0 b F (sendC s who x)) := by
  have hOF : Own B w0 ((w.alloc (box30 x)).alloc outZ) ((w.heap.size + 1, outZ) :: (w.heap.size, box30 x) :: (L ++ F)) := (hO.alloc (box30 x)).allocAt outZ (n := w.heap.size + 1) (by simp)
  have HR := Lib.hid (show sendC s who x = ⟨true, ⟨0, 0⟩, 0, [], 0, ⟨s.room, s.vals ++ [x], s.snd, s.rcv, s.shut⟩⟩ by simp [sendC, h1, h2, h3, h4])
  have H1 := Lib.hid h1
  have hX' := hX
  obtain ⟨v1, v2, v3, L1, L2, L3, hC, rfl⟩ := hX'
  have H2 := Lib.hid h2
  have hs3 := Lib.hid (show Sl 136 3 C3 v3 [] L3 from h3 ▸ hC.s3)
  have hlv : s.vals.length < 64 := by have := hC.r1; omega
  have hd : decide ((s.vals.length : Int) < s.room) = true := decide_eq_true h4
  obtain ⟨a1, p1, hv1, _, _⟩ := hC.s1.form
  have HV1 := Lib.hid hv1
  clear h1 h2 h3 hO hv1
  go_enter Try.func44, Try.ntmps44
  go_wp2_with (go_at_call 80; refine (cmay B w0 b s _ _ who _ hX (fun p hp => List.mem_cons_of_mem _ (List.mem_cons_of_mem _ (List.mem_append_left _ hp))) hOF).mono ?_; rintro e w1 ⟨rfl, hO1⟩; rw [H1.out]; have hcb := hO1.get (b, cobj s.room v1 v2 v3 s.shut) (by simp); have c5 : w1.cell? ⟨b, 5, none⟩ = some (.bool s.shut) := cell_of_get hcb 5; have hbl := lt_of_get hcb; clear hcb; rw [H2.out] at c5)
  have hO2 := (own_flat2 hO1).shuf [[_], [_], [_], L1, L2, L3, F] [5, 2, 3, 4, 0, 1, 6] rfl rfl
  clear hO1 hOF c5
  refine (take82_none B w0 b 4 113 _ v3 L3 _ _ hs3.out rfl hO2).mono ?_
  rintro e w2 ⟨rfl, hO3⟩
  have hZ := hO3.shuf [L3, [_], L1, L2, [_], [_], F] [4, 5, 1, 2, 3, 0, 6] rfl rfl
  have hcb := hZ.get (b, cobj s.room v1 v2 v3 s.shut) (by simp [cat])
  have c1 : w2.cell? ⟨b, 1, none⟩ = some (.int .i64 s.room) := cell_of_get hcb 1
  have c2 : w2.cell? ⟨b, 2, none⟩ = some (.slice a1 s.vals.length p1) := by rw [← HV1.out]; exact cell_of_get hcb 2
  have hbl := lt_of_get hcb
  have HZ := Lib.hid hZ
  clear hcb hO2 hO3 hZ
  go_wp2
  go_quiet (fail)
  go_wp2
  have hO4 := ((HZ.out.shuf [[_], [_], [_], L1, L2, L3, F] [3, 2, 4, 5, 0, 1, 6] rfl rfl).junk (.cells #[.int .i64 0, .int .i64 0, .int .i64 0] 136)).drewN nq
  generalize hw3 : (w2.alloc (.cells #[.int .i64 0, .int .i64 0, .int .i64 0] 136)).drewN nq = w3 at hO4 ⊢
  clear hw3 HZ c1 c2 hbl
  have hbx := hO4.get (w.heap.size, box30 x) (by simp [cat])
  have b0 : w3.cell? ⟨w.heap.size, 0, none⟩ = some (.int .i64 x.t) := cell_of_get hbx 0
  have b1 : w3.cell? ⟨w.heap.size, 1, none⟩ = some (.int .i64 x.n) := cell_of_get hbx 1
  clear hbx
  go_region_held3 (fun w' => w'.cell? ⟨w.heap.size, 0, none⟩ = some (.int .i64 x.t) ∧ w'.cell? ⟨w.heap.size, 1, none⟩ = some (.int .i64 x.n))
    (first
      | go_keep
      | exact ⟨k0, k1⟩)
    (first
      | (go_at_call 84; refine (put84 B w0 b 2 113 _ s.vals x v1 L1 _ _ hC.s1 rfl hO4.drew (by omega)).mono ?_; rintro e w5 ⟨rfl, v', L', hS', hO5⟩; have hbx := hO5.get (w.heap.size, box30 x) (by simp [cat]); have k0 : w5.cell? ⟨w.heap.size, 0, none⟩ = some (.int .i64 x.t) := cell_of_get hbx 0; have k1 : w5.cell? ⟨w.heap.size, 1, none⟩ = some (.int .i64 x.n) := cell_of_get hbx 1; clear hbx))
  have hZ := hO5.shuf [L', [_], L2, L3, [_], [_], F] [4, 1, 0, 2, 3, 6, 5] rfl rfl
  have hz := hZ.head
  obtain ⟨z0, z1, z2, z3, z4⟩ := z5 hz
  have zf := free_of_get hz
  have zl := lt_of_get hz
  have zl1 : w.heap.size + 1 < w5.heap.size + 1 := by omega
  clear hz hO4 hO5 b0 b1 k0 k1
  go_wp2_with (go_at_call 83; refine (cdone 0 0 _ 0 0 _).mono ?_; rintro e w6 ⟨rfl, rfl⟩)
  have hO9 := ((out5 hZ (.bool true) (.int .i64 0) (.int .i64 0) (.int .i64 0) (.slice none 0 0)).junk (.cells #[.int .i64 0, .int .i64 0] 30)).junk (.cells #[.bool true, .int .i64 0, .int .i64 0, .int .i64 0, .slice none 0 0] 33)
  have rr := z5 (hO9.get (w.heap.size + 1, Obj.cells #[.bool true, .int .i64 0, .int .i64 0, .int .i64 0, (.slice none 0 0)] 33 (0, 0)) (by simp))
  obtain ⟨r0, r1, r2, r3, r4⟩ := rr
  have HO9 := Lib.hid (own_pack (L1 := L') (L2 := L2) (L3 := L3) (R := [] ++ F) ((hO9.shuf [[_], [_], L', L2, L3, F, [_]] [0, 6, 1, 2, 3, 4, 5] rfl rfl).tail.tail))
  clear hO9 z0 z1 z2 z3 z4 hZ
  refine bodyPost_ret (v := .tuple #[outV true 0 0 0 (.slice none 0 0), .int .i64 0]) (by simp [results, Try.results44, go_sem, r0, r1, r2, r3, r4]) rfl ?_
  exact cout_mk _ HR rfl Sl.nil ⟨v', v2, v3, L', L2, L3, ⟨hS', hC.s2, hC.s3, by simp; omega, hC.l2, hC.l3, hC.r0, hC.r1⟩, rfl⟩ HO9.out

set_option maxRecDepth 100000 in
set_option maxHeartbeats 4000000 in
theorem csend_full (B : Nat) (w0 : World) (b : Nat) (s : CS) (L F : List (Nat × Obj)) (who : Int) (x : V2) (w : World) (hX : Cx b s L) (hO : Own B w0 w (L ++ F)) (h1 : mayC s who = 0) (h2 : s.shut = false) (h3 : s.rcv = []) (h4 : ¬ (s.vals.length : Int) < s.room) (h5 : 256 ≤ s.snd.length) :
    Calls Try.prog 44 #[.pointer (some ⟨b, 0, none⟩), .int .i64 who, .agg #[.int .i64 x.t, .int .i64 x.n]] w (COutPost B w0 b F (sendC s who x)) := by
  have hOF : Own B w0 ((w.alloc (box30 x)).alloc outZ) ((w.heap.size + 1, outZ) :: (w.heap.size, box30 x) :: (L ++ F)) := (hO.alloc (box30 x)).allocAt outZ (n := w.heap.size + 1) (by simp)
  have HR := Lib.hid (show sendC s who x = ⟨false, ⟨0, 0⟩, 0, [], 7, s⟩ by simp [sendC, h1, h2, h3, h4, h5])
  have H1 := Lib.hid h1
  have hX' := hX
  obtain ⟨v1, v2, v3, L1, L2, L3, hC, rfl⟩ := hX'
  have H2 := Lib.hid h2
  have hs3 := Lib.hid (show Sl 136 3 C3 v3 [] L3 from h3 ▸ hC.s3)
  have hd : decide ((s.vals.length : Int) < s.room) = false := decide_eq_false h4
  obtain ⟨a1, p1, hv1, _, _⟩ := hC.s1.form
  obtain ⟨a2, p2, hv2, _, _⟩ := hC.s2.form
  have HV1 := Lib.hid hv1
  have HV2 := Lib.hid hv2
  clear h1 h2 h3 hO hv1 hv2
  go_enter Try.func44, Try.ntmps44
  go_wp2_with (go_at_call 80; refine (cmay B w0 b s _ _ who _ hX (fun p hp => List.mem_cons_of_mem _ (List.mem_cons_of_mem _ (List.mem_append_left _ hp))) hOF).mono ?_; rintro e w1 ⟨rfl, hO1⟩; rw [H1.out]; have hcb := hO1.get (b, cobj s.room v1 v2 v3 s.shut) (by simp); have c5 : w1.cell? ⟨b, 5, none⟩ = some (.bool s.shut) := cell_of_get hcb 5; have hbl := lt_of_get hcb; clear hcb; rw [H2.out] at c5)
  have hO2 := (own_flat2 hO1).shuf [[_], [_], [_], L1, L2, L3, F] [5, 2, 3, 4, 0, 1, 6] rfl rfl
  clear hO1 hOF c5
  refine (take82_none B w0 b 4 113 _ v3 L3 _ _ hs3.out rfl hO2).mono ?_
  rintro e w2 ⟨rfl, hO3⟩
  have hZ := hO3.shuf [L3, [_], L1, L2, [_], [_], F] [4, 5, 1, 2, 3, 0, 6] rfl rfl
  have hcb := hZ.get (b, cobj s.room v1 v2 v3 s.shut) (by simp [cat])
  have c1 : w2.cell? ⟨b, 1, none⟩ = some (.int .i64 s.room) := cell_of_get hcb 1
  have c2 : w2.cell? ⟨b, 2, none⟩ = some (.slice a1 s.vals.length p1) := by rw [← HV1.out]; exact cell_of_get hcb 2
  have hbl := lt_of_get hcb
  have HZ := Lib.hid hZ
  clear hcb hO2 hO3 hZ
  go_wp2
  go_quiet (fail)
  go_wp2
  have hO4 := ((HZ.out.shuf [[_], [_], [_], L1, L2, L3, F] [4, 2, 3, 5, 0, 1, 6] rfl rfl).junk (.cells #[.int .i64 0, .int .i64 0, .int .i64 0] 136)).drewN nq
  generalize hw3 : (w2.alloc (.cells #[.int .i64 0, .int .i64 0, .int .i64 0] 136)).drewN nq = w3 at hO4 ⊢
  clear hw3 HZ c1 c2 hbl
  have hbx := hO4.get (w.heap.size, box30 x) (by simp [cat])
  have b0 : w3.cell? ⟨w.heap.size, 0, none⟩ = some (.int .i64 x.t) := cell_of_get hbx 0
  have b1 : w3.cell? ⟨w.heap.size, 1, none⟩ = some (.int .i64 x.n) := cell_of_get hbx 1
  have c3 : w3.drew.cell? ⟨b, 3, none⟩ = some (.slice a2 s.snd.length p2) := by rw [← HV2.out]; exact cell_of_get (hO4.drew.get (b, cobj s.room v1 v2 v3 s.shut) (by simp [cat])) 3
  clear hbx
  go_region_held3 (fun w' => w'.cell? ⟨w.heap.size, 0, none⟩ = some (.int .i64 x.t) ∧ w'.cell? ⟨w.heap.size, 1, none⟩ = some (.int .i64 x.n))
    (first
      | go_keep
      | exact ⟨k0, k1⟩)
    (first
      | (go_at_call 85; refine (cwaits_full B w0 b 3 ⟨who, x.t, x.n⟩ _ _ _ _ _ c3 h5 hO4.drew).mono ?_; rintro e w5 ⟨rfl, hO5⟩; have hbx := hO5.get (w.heap.size, box30 x) (by simp [cat]); have k0 : w5.cell? ⟨w.heap.size, 0, none⟩ = some (.int .i64 x.t) := cell_of_get hbx 0; have k1 : w5.cell? ⟨w.heap.size, 1, none⟩ = some (.int .i64 x.n) := cell_of_get hbx 1; have hZ := hO5.shuf [L2, [_], L1, L3, [_], [_], F] [4, 1, 2, 0, 3, 6, 5] rfl rfl; have hz := hZ.head; obtain ⟨z0, z1, z2, z3, z4⟩ := z5 hz; have zf := free_of_get hz; have zl := lt_of_get hz; clear hbx hz))
  all_goals
    clear hO4 hO5 b0 b1 k0 k1 c3
    go_wp2
    have hO9 := (out5 hZ (.bool false) (.int .i64 0) (.int .i64 0) (.int .i64 0) (.slice none 0 0))
    have rr := z5 (hO9.get (w.heap.size + 1, Obj.cells #[.bool false, .int .i64 0, .int .i64 0, .int .i64 0, (.slice none 0 0)] 33 (0, 0)) (by simp))
    obtain ⟨r0, r1, r2, r3, r4⟩ := rr
    have HO9 := Lib.hid (own_pack (L1 := L1) (L2 := L2) (L3 := L3) (R := [] ++ F) ((hO9.shuf [[_], [_], L1, L2, L3, F, [_]] [0, 6, 1, 2, 3, 4, 5] rfl rfl).tail.tail))
    clear hO9 z0 z1 z2 z3 z4 hZ
    refine bodyPost_ret (v := .tuple #[outV false 0 0 0 (.slice none 0 0), .int .i64 7]) (by simp [results, Try.results44, go_sem, r0, r1, r2, r3, r4]) rfl ?_
    exact cout_mk _ HR rfl Sl.nil hX HO9.out

set_option maxRecDepth 100000 in
set_option maxHeartbeats 4000000 in
theorem csend_wait (B : Nat) (w0 : World) (b : Nat) (s : CS) (L F : List (Nat × Obj)) (who : Int) (x : V2) (w : World) (hX : Cx b s L) (hO : Own B w0 w (L ++ F)) (h1 : mayC s who = 0) (h2 : s.shut = false) (h3 : s.rcv = []) (h4 : ¬ (s.vals.length : Int) < s.room) (h5 : ¬ 256 ≤ s.snd.length) :
    Calls Try.prog 44 #[.pointer (some ⟨b, 0, none⟩), .int .i64 who, .agg #[.int .i64 x.t, .int .i64 x.n]] w (COutPost B w0 b F (sendC s who x)) := by
  have hOF : Own B w0 ((w.alloc (box30 x)).alloc outZ) ((w.heap.size + 1, outZ) :: (w.heap.size, box30 x) :: (L ++ F)) := (hO.alloc (box30 x)).allocAt outZ (n := w.heap.size + 1) (by simp)
  have HR := Lib.hid (show sendC s who x = ⟨false, ⟨0, 0⟩, 0, [], 0, ⟨s.room, s.vals, s.snd ++ [⟨who, x.t, x.n⟩], s.rcv, s.shut⟩⟩ by simp [sendC, h1, h2, h3, h4, h5])
  have H1 := Lib.hid h1
  have hX' := hX
  obtain ⟨v1, v2, v3, L1, L2, L3, hC, rfl⟩ := hX'
  have H2 := Lib.hid h2
  have hs3 := Lib.hid (show Sl 136 3 C3 v3 [] L3 from h3 ▸ hC.s3)
  have hd : decide ((s.vals.length : Int) < s.room) = false := decide_eq_false h4
  obtain ⟨a1, p1, hv1, _, _⟩ := hC.s1.form
  obtain ⟨a2, p2, hv2, _, _⟩ := hC.s2.form
  have HV1 := Lib.hid hv1
  have HV2 := Lib.hid hv2
  clear h1 h2 h3 hO hv1 hv2
  go_enter Try.func44, Try.ntmps44
  go_wp2_with (go_at_call 80; refine (cmay B w0 b s _ _ who _ hX (fun p hp => List.mem_cons_of_mem _ (List.mem_cons_of_mem _ (List.mem_append_left _ hp))) hOF).mono ?_; rintro e w1 ⟨rfl, hO1⟩; rw [H1.out]; have hcb := hO1.get (b, cobj s.room v1 v2 v3 s.shut) (by simp); have c5 : w1.cell? ⟨b, 5, none⟩ = some (.bool s.shut) := cell_of_get hcb 5; have hbl := lt_of_get hcb; clear hcb; rw [H2.out] at c5)
  have hO2 := (own_flat2 hO1).shuf [[_], [_], [_], L1, L2, L3, F] [5, 2, 3, 4, 0, 1, 6] rfl rfl
  clear hO1 hOF c5
  refine (take82_none B w0 b 4 113 _ v3 L3 _ _ hs3.out rfl hO2).mono ?_
  rintro e w2 ⟨rfl, hO3⟩
  have hZ := hO3.shuf [L3, [_], L1, L2, [_], [_], F] [4, 5, 1, 2, 3, 0, 6] rfl rfl
  have hcb := hZ.get (b, cobj s.room v1 v2 v3 s.shut) (by simp [cat])
  have c1 : w2.cell? ⟨b, 1, none⟩ = some (.int .i64 s.room) := cell_of_get hcb 1
  have c2 : w2.cell? ⟨b, 2, none⟩ = some (.slice a1 s.vals.length p1) := by rw [← HV1.out]; exact cell_of_get hcb 2
  have hbl := lt_of_get hcb
  have HZ := Lib.hid hZ
  clear hcb hO2 hO3 hZ
  go_wp2
  go_quiet (fail)
  go_wp2
  have hO4 := ((HZ.out.shuf [[_], [_], [_], L1, L2, L3, F] [4, 2, 3, 5, 0, 1, 6] rfl rfl).junk (.cells #[.int .i64 0, .int .i64 0, .int .i64 0] 136)).drewN nq
  generalize hw3 : (w2.alloc (.cells #[.int .i64 0, .int .i64 0, .int .i64 0] 136)).drewN nq = w3 at hO4 ⊢
  clear hw3 HZ c1 c2 hbl
  have hbx := hO4.get (w.heap.size, box30 x) (by simp [cat])
  have b0 : w3.cell? ⟨w.heap.size, 0, none⟩ = some (.int .i64 x.t) := cell_of_get hbx 0
  have b1 : w3.cell? ⟨w.heap.size, 1, none⟩ = some (.int .i64 x.n) := cell_of_get hbx 1
  have c3 : w3.drew.cell? ⟨b, 3, none⟩ = some (.slice a2 s.snd.length p2) := by rw [← HV2.out]; exact cell_of_get (hO4.drew.get (b, cobj s.room v1 v2 v3 s.shut) (by simp [cat])) 3
  clear hbx
  go_region_held3 (fun w' => w'.cell? ⟨w.heap.size, 0, none⟩ = some (.int .i64 x.t) ∧ w'.cell? ⟨w.heap.size, 1, none⟩ = some (.int .i64 x.n))
    (first
      | go_keep
      | exact ⟨k0, k1⟩)
    (first
      | (go_at_call 85; refine (cwaits_put B w0 b 3 113 _ s.snd ⟨who, x.t, x.n⟩ v2 L2 _ _ hC.s2 rfl hO4.drew (by omega)).mono ?_; rintro e w5 ⟨rfl, v', L', hS', hO5⟩; have hbx := hO5.get (w.heap.size, box30 x) (by simp [cat]); have k0 : w5.cell? ⟨w.heap.size, 0, none⟩ = some (.int .i64 x.t) := cell_of_get hbx 0; have k1 : w5.cell? ⟨w.heap.size, 1, none⟩ = some (.int .i64 x.n) := cell_of_get hbx 1; have hZ := hO5.shuf [L', [_], L1, L3, [_], [_], F] [4, 1, 2, 0, 3, 6, 5] rfl rfl; have hz := hZ.head; obtain ⟨z0, z1, z2, z3, z4⟩ := z5 hz; have zf := free_of_get hz; have zl := lt_of_get hz; clear hbx hz))
  all_goals
    clear hO4 hO5 b0 b1 k0 k1 c3
    go_wp2
    have hO9 := (out5 hZ (.bool false) (.int .i64 0) (.int .i64 0) (.int .i64 0) (.slice none 0 0))
    have rr := z5 (hO9.get (w.heap.size + 1, Obj.cells #[.bool false, .int .i64 0, .int .i64 0, .int .i64 0, (.slice none 0 0)] 33 (0, 0)) (by simp))
    obtain ⟨r0, r1, r2, r3, r4⟩ := rr
    have HO9 := Lib.hid (own_pack (L1 := L1) (L2 := L') (L3 := L3) (R := [] ++ F) ((hO9.shuf [[_], [_], L1, L', L3, F, [_]] [0, 6, 1, 2, 3, 4, 5] rfl rfl).tail.tail))
    clear hO9 z0 z1 z2 z3 z4 hZ
    refine bodyPost_ret (v := .tuple #[outV false 0 0 0 (.slice none 0 0), .int .i64 0]) (by simp [results, Try.results44, go_sem, r0, r1, r2, r3, r4]) rfl ?_
    exact cout_mk _ HR rfl Sl.nil ⟨v1, v', v3, L1, L', L3, ⟨hC.s1, hS', hC.s3, hC.l1, by simp; omega, hC.l3, hC.r0, hC.r1⟩, rfl⟩ HO9.out

theorem mayC_cases (s : CS) (who : Int) : mayC s who = 0 ∨ mayC s who = 1 := by
  unfold mayC; split <;> (try split) <;> (try split) <;> (try split) <;> simp

theorem csend (B : Nat) (w0 : World) (b : Nat) (s : CS) (L F : List (Nat × Obj)) (who : Int) (x : V2) (w : World) (hX : Cx b s L) (hO : Own B w0 w (L ++ F)) :
    Calls Try.prog 44 #[.pointer (some ⟨b, 0, none⟩), .int .i64 who, .agg #[.int .i64 x.t, .int .i64 x.n]] w (COutPost B w0 b F (sendC s who x)) := by
  rcases mayC_cases s who with h1' | h1
  rotate_left
  · exact csend_bad B w0 b s L F who x w hX hO h1
  · cases h2 : s.shut with
    | true => exact csend_shut B w0 b s L F who x w hX hO h1' h2
    | false =>
      cases h3 : s.rcv with
      | cons y r => exact csend_rcv B w0 b s L F who x w hX hO h1' h2 y r h3
      | nil =>
        by_cases h4 : (s.vals.length : Int) < s.room
        · exact csend_room B w0 b s L F who x w hX hO h1' h2 h3 h4
        · by_cases h5 : 256 ≤ s.snd.length
          · exact csend_full B w0 b s L F who x w hX hO h1' h2 h3 h4 h5
          · exact csend_wait B w0 b s L F who x w hX hO h1' h2 h3 h4 h5


end Go.Proofs.Ytidnkienkdlmkaa
