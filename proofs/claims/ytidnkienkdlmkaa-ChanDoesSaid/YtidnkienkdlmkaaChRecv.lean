/-
  Contract of Receive. Conditions: at most 64 values, 256 waiters.
-/
import Derived.Test.YtidnkienkdlmkaaChSend
namespace Go.Proofs.Ytidnkienkdlmkaa
open Go.RowKit Go.Sh
attribute [local go_sem ↓] Go.wp_at_zero Go.wp_at_succ

def recvC (s : CS) (who : Int) : CR :=
  if mayC s who = 1 then ⟨false, ⟨0, 0⟩, 0, [], 1, s⟩
  else match s.vals, s.snd with
    | v :: vs, y :: r => ⟨true, v, 0, [⟨y.who, 0, 0, 0⟩], 0, ⟨s.room, vs ++ [⟨y.t, y.n⟩], r, s.rcv, s.shut⟩⟩
    | v :: vs, [] => ⟨true, v, 0, [], 0, ⟨s.room, vs, s.snd, s.rcv, s.shut⟩⟩
    | [], y :: r => ⟨true, ⟨y.t, y.n⟩, 0, [⟨y.who, 0, 0, 0⟩], 0, ⟨s.room, s.vals, r, s.rcv, s.shut⟩⟩
    | [], [] => if s.shut = true then ⟨false, ⟨0, 0⟩, 11, [], 0, s⟩
      else if 256 ≤ s.rcv.length then ⟨false, ⟨0, 0⟩, 0, [], 7, s⟩
      else ⟨false, ⟨0, 0⟩, 0, [], 0, ⟨s.room, s.vals, s.snd, s.rcv ++ [⟨who, 0, 0⟩], s.shut⟩⟩

section
variable {B : Nat} {w0 w : World} {c : Nat × Obj} {L1 L2 L3 R : List (Nat × Obj)}
theorem own_flat1 {X : Nat × Obj} (h : Own B w0 w (X :: ((c :: (L1 ++ (L2 ++ L3))) ++ R))) : Own B w0 w (X :: c :: (L1 ++ (L2 ++ (L3 ++ R)))) := by simpa [List.append_assoc] using h
end

abbrev wbox (y : W3) : Obj := Obj.cells #[.int .i64 y.who, .int .i64 y.t, .int .i64 y.n] 136 (0, 0)
abbrev zbox : Obj := Obj.cells #[.int .i64 0, .int .i64 0, .int .i64 0] 136 (0, 0)


set_option maxRecDepth 100000 in
set_option maxHeartbeats 4000000 in
theorem crecv_bad (B : Nat) (w0 : World) (b : Nat) (s : CS) (L F : List (Nat × Obj)) (who : Int) (w : World) (hX : Cx b s L) (hO : Own B w0 w (L ++ F)) (h1 : mayC s who = 1) :
    Calls Try.prog 45 #[.pointer (some ⟨b, 0, none⟩), .int .i64 who] w (COutPost B w0 b F (recvC s who)) := by
  have hOF : Own B w0 (w.alloc outZ) ((w.heap.size, outZ) :: (L ++ F)) := hO.alloc outZ
  have HR := Lib.hid (show recvC s who = ⟨false, ⟨0, 0⟩, 0, [], 1, s⟩ by simp [recvC, h1])
  have H1 := Lib.hid h1
  clear h1 hO
  go_enter Try.func45, Try.ntmps45
  go_wp2_with fail
  refine (cmay B w0 b s _ _ who _ hX (fun p hp => List.mem_cons_of_mem _ (List.mem_append_left _ hp)) hOF).mono ?_
  rintro e w1 ⟨rfl, hO1⟩
  rw [H1.out]
  obtain ⟨z0, z1, z2, z3, z4⟩ := z5 hO1.head
  have zf := free_of_get hO1.head
  have zl := lt_of_get hO1.head
  have zl1 : w.heap.size < w1.heap.size + 1 := by omega
  have zl2 : w.heap.size < w1.heap.size + 1 + 1 := by omega
  go_wp2
  have hO9 := (out5 hO1 (.bool false) (.int .i64 0) (.int .i64 0) (.int .i64 0) (.slice none 0 0))
  have rr := z5 (hO9.get (w.heap.size, Obj.cells #[.bool false, .int .i64 0, .int .i64 0, .int .i64 0, (.slice none 0 0)] 33 (0, 0)) (by simp))
  obtain ⟨r0, r1, r2, r3, r4⟩ := rr
  have HO9 := Lib.hid hO9.tail
  clear hO9 z0 z1 z2 z3 z4 hO1
  refine bodyPost_ret (v := .tuple #[outV false 0 0 0 (.slice none 0 0), .int .i64 1]) (by simp [results, Try.results45, go_sem, r0, r1, r2, r3, r4]) rfl ?_
  exact cout_mk _ HR rfl Sl.nil hX HO9.out

set_option maxRecDepth 100000 in
set_option maxHeartbeats 4000000 in
theorem crecv_both (B : Nat) (w0 : World) (b : Nat) (s : CS) (L F : List (Nat × Obj)) (who : Int) (w : World) (hX : Cx b s L) (hO : Own B w0 w (L ++ F)) (h1 : mayC s who = 0) (v : V2) (vs : List V2) (hv : s.vals = v :: vs) (y : W3) (r : List W3) (hy : s.snd = y :: r) :
    Calls Try.prog 45 #[.pointer (some ⟨b, 0, none⟩), .int .i64 who] w (COutPost B w0 b F (recvC s who)) := by
  have hOF : Own B w0 (w.alloc outZ) ((w.heap.size, outZ) :: (L ++ F)) := hO.alloc outZ
  have HR := Lib.hid (show recvC s who = ⟨true, v, 0, [⟨y.who, 0, 0, 0⟩], 0, ⟨s.room, vs ++ [⟨y.t, y.n⟩], r, s.rcv, s.shut⟩⟩ by simp [recvC, h1, hv, hy])
  have H1 := Lib.hid h1
  have hX' := hX
  obtain ⟨v1, v2, v3, L1, L2, L3, hC, rfl⟩ := hX'
  have lv : vs.length < 64 := by have := hC.l1; rw [hv] at this; simp at this; omega
  have ly : r.length ≤ 256 := by have := hC.l2; rw [hy] at this; simp at this; omega
  have hs1 := Lib.hid (show Sl 30 2 C2 v1 (v :: vs) L1 from hv ▸ hC.s1)
  have hs2 := Lib.hid (show Sl 136 3 C3 v2 (y :: r) L2 from hy ▸ hC.s2)
  clear h1 hv hy hO
  go_enter Try.func45, Try.ntmps45
  go_wp2_with (go_at_call 80; refine (cmay B w0 b s _ _ who _ hX (fun p hp => List.mem_cons_of_mem _ (List.mem_append_left _ hp)) hOF).mono ?_; rintro e w1 ⟨rfl, hO1⟩; rw [H1.out])
  have hO2 := (own_flat1 hO1).shuf [[_], [_], L1, L2, L3, F] [2, 1, 3, 4, 0, 5] rfl rfl
  clear hO1 hOF
  refine (take86_some B w0 b 2 113 _ v vs v1 L1 _ _ hs1.out rfl hO2).mono ?_
  rintro e w2 ⟨rfl, v1', L1', hS1', hO3⟩
  have hO4 := (hO3.alloc (box30 v)).shuf [[_], L1', [_], L2, L3, [_], F] [3, 2, 1, 4, 0, 5, 6] rfl rfl
  clear hO2 hO3
  go_wp2_with fail
  refine (take82_some B w0 b 3 113 _ y r v2 L2 _ _ hs2.out rfl hO4).mono ?_
  rintro e w3 ⟨rfl, v2', L2', hS2', hO5⟩
  clear hO4
  have hO7 := (hO5.alloc (wbox y)).shuf [[_], L2', [_], L1', L3, [_], [_], F] [3, 2, 1, 4, 0, 5, 6, 7] rfl rfl
  have HO7 := Lib.hid hO7
  clear hO5 hO7
  go_wp2
  go_region_held3 (fun w' => w'.cell? ⟨w3.heap.size, 1, none⟩ = some (.int .i64 y.t) ∧ w'.cell? ⟨w3.heap.size, 2, none⟩ = some (.int .i64 y.n))
    (first
      | go_keep
      | exact ⟨k1, k2⟩)
    (first
      | (go_at_call 84; refine (put84 B w0 b 2 113 _ vs ⟨y.t, y.n⟩ v1' L1' _ _ hS1' rfl HO7.out.drew (by omega)).mono ?_; rintro e w5 ⟨rfl, vv, LL, hSS, hO8⟩; have hbx := hO8.get (w3.heap.size, wbox y) (by simp [cat]); have k0 : w5.cell? ⟨w3.heap.size, 0, none⟩ = some (.int .i64 y.who) := cell_of_get hbx 0; have k1 : w5.cell? ⟨w3.heap.size, 1, none⟩ = some (.int .i64 y.t) := cell_of_get hbx 1; have k2 : w5.cell? ⟨w3.heap.size, 2, none⟩ = some (.int .i64 y.n) := cell_of_get hbx 2; clear hbx))
  have hZ := hO8.shuf [LL, [_], L2', L3, [_], [_], [_], F] [6, 5, 4, 1, 0, 2, 3, 7] rfl rfl
  have hbv := hZ.get (w2.heap.size, box30 v) (by simp [cat])
  have b0 : w5.cell? ⟨w2.heap.size, 0, none⟩ = some (.int .i64 v.t) := cell_of_get hbv 0
  have b1 : w5.cell? ⟨w2.heap.size, 1, none⟩ = some (.int .i64 v.n) := cell_of_get hbv 1
  obtain ⟨z0, z1, z2, z3, z4⟩ := z5 hZ.head
  have zf := free_of_get hZ.head
  have zl := lt_of_get hZ.head
  have zl1 : w.heap.size < w5.heap.size + 1 := by omega
  have zl2 : w.heap.size < w5.heap.size + 1 + 1 := by omega
  clear hbv hO8
  go_wp2_with (go_at_call 83; refine (cdone v.t v.n _ 1 1 _).mono ?_; rintro e w6 ⟨rfl, rfl⟩)
  have hO9 := (((out5 hZ (.bool true) (.int .i64 v.t) (.int .i64 v.n) (.int .i64 0) (.slice (some ⟨w5.heap.size, 0, none⟩) 1 1)).allocAt (.cells #[.int .i64 y.who, .int .i64 0, .int .i64 0, .int .i64 0] 38) (n := w5.heap.size) (by simp)).junk (.cells #[.int .i64 v.t, .int .i64 v.n] 30)).junk (.cells #[.bool true, .int .i64 v.t, .int .i64 v.n, .int .i64 0, .slice (some ⟨w5.heap.size, 0, none⟩) 1 1] 33)
  have rr := z5 (hO9.get (w.heap.size, Obj.cells #[.bool true, .int .i64 v.t, .int .i64 v.n, .int .i64 0, (.slice (some ⟨w5.heap.size, 0, none⟩) 1 1)] 33 (0, 0)) (by simp))
  obtain ⟨r0, r1, r2, r3, r4⟩ := rr
  have HO9 := Lib.hid (own_pack (L1 := LL) (L2 := L2') (L3 := L3) (R := [_] ++ F) ((hO9.shuf [[_], [_], [_], [_], [_], LL, L2', L3, F] [1, 2, 3, 4, 5, 6, 7, 0, 8] rfl rfl).tail.tail.tail))
  clear hO9 z0 z1 z2 z3 z4 hZ
  refine bodyPost_ret (v := .tuple #[outV true v.t v.n 0 (.slice (some ⟨w5.heap.size, 0, none⟩) 1 1), .int .i64 0]) (by simp [results, Try.results45, go_sem, r0, r1, r2, r3, r4]) rfl ?_
  exact cout_mk _ HR rfl (slK w5.heap.size ⟨y.who, 0, 0, 0⟩) ⟨vv, v2', v3, LL, L2', L3, ⟨hSS, hS2', hC.s3, by simp; omega, ly, hC.l3, hC.r0, hC.r1⟩, rfl⟩ HO9.out

set_option maxRecDepth 100000 in
set_option maxHeartbeats 4000000 in
theorem crecv_val (B : Nat) (w0 : World) (b : Nat) (s : CS) (L F : List (Nat × Obj)) (who : Int) (w : World) (hX : Cx b s L) (hO : Own B w0 w (L ++ F)) (h1 : mayC s who = 0) (v : V2) (vs : List V2) (hv : s.vals = v :: vs) (hy : s.snd = []) :
    Calls Try.prog 45 #[.pointer (some ⟨b, 0, none⟩), .int .i64 who] w (COutPost B w0 b F (recvC s who)) := by
  have hOF : Own B w0 (w.alloc outZ) ((w.heap.size, outZ) :: (L ++ F)) := hO.alloc outZ
  have HR := Lib.hid (show recvC s who = ⟨true, v, 0, [], 0, ⟨s.room, vs, s.snd, s.rcv, s.shut⟩⟩ by simp [recvC, h1, hv, hy])
  have H1 := Lib.hid h1
  have hX' := hX
  obtain ⟨v1, v2, v3, L1, L2, L3, hC, rfl⟩ := hX'
  have lv : vs.length < 64 := by have := hC.l1; rw [hv] at this; simp at this; omega
  have hs1 := Lib.hid (show Sl 30 2 C2 v1 (v :: vs) L1 from hv ▸ hC.s1)
  have hs2 := Lib.hid (show Sl 136 3 C3 v2 [] L2 from hy ▸ hC.s2)
  clear h1 hv hy hO
  go_enter Try.func45, Try.ntmps45
  go_wp2_with (go_at_call 80; refine (cmay B w0 b s _ _ who _ hX (fun p hp => List.mem_cons_of_mem _ (List.mem_append_left _ hp)) hOF).mono ?_; rintro e w1 ⟨rfl, hO1⟩; rw [H1.out])
  have hO2 := (own_flat1 hO1).shuf [[_], [_], L1, L2, L3, F] [2, 1, 3, 4, 0, 5] rfl rfl
  clear hO1 hOF
  refine (take86_some B w0 b 2 113 _ v vs v1 L1 _ _ hs1.out rfl hO2).mono ?_
  rintro e w2 ⟨rfl, v1', L1', hS1', hO3⟩
  have hO4 := (hO3.alloc (box30 v)).shuf [[_], L1', [_], L2, L3, [_], F] [3, 2, 1, 4, 0, 5, 6] rfl rfl
  clear hO2 hO3
  go_wp2_with fail
  refine (take82_none B w0 b 3 113 _ v2 L2 _ _ hs2.out rfl hO4).mono ?_
  rintro e w3 ⟨rfl, hO5⟩
  clear hO4
  have hZ := hO5.shuf [L2, [_], L1', L3, [_], [_], F] [5, 4, 1, 2, 0, 3, 6] rfl rfl
  have hbv := hZ.get (w2.heap.size, box30 v) (by simp [cat])
  have b0 : w3.cell? ⟨w2.heap.size, 0, none⟩ = some (.int .i64 v.t) := cell_of_get hbv 0
  have b1 : w3.cell? ⟨w2.heap.size, 1, none⟩ = some (.int .i64 v.n) := cell_of_get hbv 1
  have bl := lt_of_get hbv
  obtain ⟨z0, z1, z2, z3, z4⟩ := z5 hZ.head
  have zf := free_of_get hZ.head
  have zl := lt_of_get hZ.head
  have zl1 : w.heap.size < w3.heap.size + 1 := by omega
  have zl2 : w.heap.size < w3.heap.size + 1 + 1 := by omega
  clear hbv hO5
  go_wp2_with (go_at_call 83; refine (cdone v.t v.n _ 0 0 _).mono ?_; rintro e w6 ⟨rfl, rfl⟩)
  have hO9 := (((out5 hZ (.bool true) (.int .i64 v.t) (.int .i64 v.n) (.int .i64 0) (.slice none 0 0)).junk zbox).junk (.cells #[.int .i64 v.t, .int .i64 v.n] 30)).junk (.cells #[.bool true, .int .i64 v.t, .int .i64 v.n, .int .i64 0, .slice none 0 0] 33)
  have rr := z5 (hO9.get (w.heap.size, Obj.cells #[.bool true, .int .i64 v.t, .int .i64 v.n, .int .i64 0, (.slice none 0 0)] 33 (0, 0)) (by simp))
  obtain ⟨r0, r1, r2, r3, r4⟩ := rr
  have HO9 := Lib.hid (own_pack (L1 := L1') (L2 := L2) (L3 := L3) (R := [] ++ F) hO9.tail.tail)
  clear hO9 z0 z1 z2 z3 z4 hZ
  refine bodyPost_ret (v := .tuple #[outV true v.t v.n 0 (.slice none 0 0), .int .i64 0]) (by simp [results, Try.results45, go_sem, r0, r1, r2, r3, r4]) rfl ?_
  exact cout_mk _ HR rfl Sl.nil ⟨v1', v2, v3, L1', L2, L3, ⟨hS1', hC.s2, hC.s3, by simp; omega, hC.l2, hC.l3, hC.r0, hC.r1⟩, rfl⟩ HO9.out

set_option maxRecDepth 100000 in
set_option maxHeartbeats 4000000 in
theorem crecv_snd (B : Nat) (w0 : World) (b : Nat) (s : CS) (L F : List (Nat × Obj)) (who : Int) (w : World) (hX : Cx b s L) (hO : Own B w0 w (L ++ F)) (h1 : mayC s who = 0) (hv : s.vals = []) (y : W3) (r : List W3) (hy : s.snd = y :: r) :
    Calls Try.prog 45 #[.pointer (some ⟨b, 0, none⟩), .int .i64 who] w (COutPost B w0 b F (recvC s who)) := by
  have hOF : Own B w0 (w.alloc outZ) ((w.heap.size, outZ) :: (L ++ F)) := hO.alloc outZ
  have HR := Lib.hid (show recvC s who = ⟨true, ⟨y.t, y.n⟩, 0, [⟨y.who, 0, 0, 0⟩], 0, ⟨s.room, s.vals, r, s.rcv, s.shut⟩⟩ by simp [recvC, h1, hv, hy])
  have H1 := Lib.hid h1
  have hX' := hX
  obtain ⟨v1, v2, v3, L1, L2, L3, hC, rfl⟩ := hX'
  have ly : r.length ≤ 256 := by have := hC.l2; rw [hy] at this; simp at this; omega
  have hs1 := Lib.hid (show Sl 30 2 C2 v1 [] L1 from hv ▸ hC.s1)
  have hs2 := Lib.hid (show Sl 136 3 C3 v2 (y :: r) L2 from hy ▸ hC.s2)
  clear h1 hv hy hO
  go_enter Try.func45, Try.ntmps45
  go_wp2_with (go_at_call 80; refine (cmay B w0 b s _ _ who _ hX (fun p hp => List.mem_cons_of_mem _ (List.mem_append_left _ hp)) hOF).mono ?_; rintro e w1 ⟨rfl, hO1⟩; rw [H1.out])
  have hO2 := (own_flat1 hO1).shuf [[_], [_], L1, L2, L3, F] [2, 1, 3, 4, 0, 5] rfl rfl
  clear hO1 hOF
  refine (take86_none B w0 b 2 113 _ v1 L1 _ _ hs1.out rfl hO2).mono ?_
  rintro e w2 ⟨rfl, hO3⟩
  have hO4 := (hO3.junk (.cells #[.int .i64 0, .int .i64 0] 30)).shuf [L1, [_], L2, L3, [_], F] [2, 1, 0, 3, 4, 5] rfl rfl
  clear hO2 hO3
  go_wp2_with fail
  refine (take82_some B w0 b 3 113 _ y r v2 L2 _ _ hs2.out rfl hO4).mono ?_
  rintro e w3 ⟨rfl, v2', L2', hS2', hO5⟩
  clear hO4
  have hZ := hO5.shuf [L2', [_], L1, L3, [_], F] [4, 1, 2, 0, 3, 5] rfl rfl
  obtain ⟨z0, z1, z2, z3, z4⟩ := z5 hZ.head
  have zf := free_of_get hZ.head
  have zl := lt_of_get hZ.head
  have zl1 : w.heap.size < w3.heap.size + 1 := by omega
  have zl2 : w.heap.size < w3.heap.size + 1 + 1 := by omega
  clear hO5
  go_wp2_with (go_at_call 83; refine (cdone y.t y.n _ 1 1 _).mono ?_; rintro e w6 ⟨rfl, rfl⟩)
  have hO9 := ((((out5 hZ (.bool true) (.int .i64 y.t) (.int .i64 y.n) (.int .i64 0) (.slice (some ⟨w3.heap.size + 1, 0, none⟩) 1 1)).junk (wbox y)).allocAt (.cells #[.int .i64 y.who, .int .i64 0, .int .i64 0, .int .i64 0] 38) (n := w3.heap.size + 1) (by simp)).junk (.cells #[.int .i64 y.t, .int .i64 y.n] 30)).junk (.cells #[.bool true, .int .i64 y.t, .int .i64 y.n, .int .i64 0, .slice (some ⟨w3.heap.size + 1, 0, none⟩) 1 1] 33)
  have rr := z5 (hO9.get (w.heap.size, Obj.cells #[.bool true, .int .i64 y.t, .int .i64 y.n, .int .i64 0, (.slice (some ⟨w3.heap.size + 1, 0, none⟩) 1 1)] 33 (0, 0)) (by simp))
  obtain ⟨r0, r1, r2, r3, r4⟩ := rr
  have HO9 := Lib.hid (own_pack (L1 := L1) (L2 := L2') (L3 := L3) (R := [_] ++ F) ((hO9.shuf [[_], [_], [_], L1, L2', L3, F] [1, 2, 3, 4, 5, 0, 6] rfl rfl).tail))
  clear hO9 z0 z1 z2 z3 z4 hZ
  refine bodyPost_ret (v := .tuple #[outV true y.t y.n 0 (.slice (some ⟨w3.heap.size + 1, 0, none⟩) 1 1), .int .i64 0]) (by simp [results, Try.results45, go_sem, r0, r1, r2, r3, r4]) rfl ?_
  exact cout_mk _ HR rfl (slK (w3.heap.size + 1) ⟨y.who, 0, 0, 0⟩) ⟨v1, v2', v3, L1, L2', L3, ⟨hC.s1, hS2', hC.s3, hC.l1, ly, hC.l3, hC.r0, hC.r1⟩, rfl⟩ HO9.out

set_option maxRecDepth 100000 in
set_option maxHeartbeats 4000000 in
theorem crecv_shut (B : Nat) (w0 : World) (b : Nat) (s : CS) (L F : List (Nat × Obj)) (who : Int) (w : World) (hX : Cx b s L) (hO : Own B w0 w (L ++ F)) (h1 : mayC s who = 0) (hv : s.vals = []) (hy : s.snd = []) (h2 : s.shut = true) :
    Calls Try.prog 45 #[.pointer (some ⟨b, 0, none⟩), .int .i64 who] w (COutPost B w0 b F (recvC s who)) := by
  have hOF : Own B w0 (w.alloc outZ) ((w.heap.size, outZ) :: (L ++ F)) := hO.alloc outZ
  have HR := Lib.hid (show recvC s who = ⟨false, ⟨0, 0⟩, 11, [], 0, s⟩ by simp [recvC, h1, hv, hy, h2])
  have H2 := Lib.hid h2
  clear h2
  have H1 := Lib.hid h1
  have hX' := hX
  obtain ⟨v1, v2, v3, L1, L2, L3, hC, rfl⟩ := hX'
  have hs1 := Lib.hid (show Sl 30 2 C2 v1 [] L1 from hv ▸ hC.s1)
  have hs2 := Lib.hid (show Sl 136 3 C3 v2 [] L2 from hy ▸ hC.s2)
  clear h1 hv hy hO
  go_enter Try.func45, Try.ntmps45
  go_wp2_with (go_at_call 80; refine (cmay B w0 b s _ _ who _ hX (fun p hp => List.mem_cons_of_mem _ (List.mem_append_left _ hp)) hOF).mono ?_; rintro e w1 ⟨rfl, hO1⟩; rw [H1.out])
  have hO2 := (own_flat1 hO1).shuf [[_], [_], L1, L2, L3, F] [2, 1, 3, 4, 0, 5] rfl rfl
  clear hO1 hOF
  refine (take86_none B w0 b 2 113 _ v1 L1 _ _ hs1.out rfl hO2).mono ?_
  rintro e w2 ⟨rfl, hO3⟩
  have hO4 := (hO3.junk (.cells #[.int .i64 0, .int .i64 0] 30)).shuf [L1, [_], L2, L3, [_], F] [2, 1, 0, 3, 4, 5] rfl rfl
  clear hO2 hO3
  go_wp2_with fail
  refine (take82_none B w0 b 3 113 _ v2 L2 _ _ hs2.out rfl hO4).mono ?_
  rintro e w3 ⟨rfl, hO5⟩
  clear hO4
  have hZ := hO5.shuf [L2, [_], L1, L3, [_], F] [4, 1, 2, 0, 3, 5] rfl rfl
  obtain ⟨z0, z1, z2, z3, z4⟩ := z5 hZ.head
  have zf := free_of_get hZ.head
  have zl := lt_of_get hZ.head
  have zl1 : w.heap.size < w3.heap.size + 1 := by omega
  have zl2 : w.heap.size < w3.heap.size + 1 + 1 := by omega
  have hcb := hZ.get (b, cobj s.room v1 v2 v3 s.shut) (by simp [cat])
  have c5 : w3.cell? ⟨b, 5, none⟩ = some (.bool s.shut) := cell_of_get hcb 5
  have hbl := lt_of_get hcb
  rw [H2.out] at c5
  clear hO5 hcb
  go_wp2_with (go_at_call 81; refine (cshut _).mono ?_; rintro e w6 ⟨rfl, rfl⟩)
  have hO9 := ((out5 hZ (.bool false) (.int .i64 0) (.int .i64 0) (.int .i64 11) (.slice none 0 0)).junk zbox).junk (.cells #[.bool false, .int .i64 0, .int .i64 0, .int .i64 11, .slice none 0 0] 33)
  have rr := z5 (hO9.get (w.heap.size, Obj.cells #[.bool false, .int .i64 0, .int .i64 0, .int .i64 11, (.slice none 0 0)] 33 (0, 0)) (by simp))
  obtain ⟨r0, r1, r2, r3, r4⟩ := rr
  have HO9 := Lib.hid (own_pack (L1 := L1) (L2 := L2) (L3 := L3) (R := [] ++ F) hO9.tail)
  clear hO9 z0 z1 z2 z3 z4 hZ
  refine bodyPost_ret (v := .tuple #[outV false 0 0 11 (.slice none 0 0), .int .i64 0]) (by simp [results, Try.results45, go_sem, r0, r1, r2, r3, r4]) rfl ?_
  exact cout_mk _ HR rfl Sl.nil hX HO9.out

set_option maxRecDepth 100000 in
set_option maxHeartbeats 4000000 in
theorem crecv_full (B : Nat) (w0 : World) (b : Nat) (s : CS) (L F : List (Nat × Obj)) (who : Int) (w : World) (hX : Cx b s L) (hO : Own B w0 w (L ++ F)) (h1 : mayC s who = 0) (hv : s.vals = []) (hy : s.snd = []) (h2 : s.shut = false) (h5 : 256 ≤ s.rcv.length) :
    Calls Try.prog 45 #[.pointer (some ⟨b, 0, none⟩), .int .i64 who] w (COutPost B w0 b F (recvC s who)) := by
  have hOF : Own B w0 (w.alloc outZ) ((w.heap.size, outZ) :: (L ++ F)) := hO.alloc outZ
  have HR := Lib.hid (show recvC s who = ⟨false, ⟨0, 0⟩, 0, [], 7, s⟩ by simp [recvC, h1, hv, hy, h2, h5])
  have H2 := Lib.hid h2
  clear h2
  have H1 := Lib.hid h1
  have hX' := hX
  obtain ⟨v1, v2, v3, L1, L2, L3, hC, rfl⟩ := hX'
  obtain ⟨a3, p3, hv3, _, _⟩ := hC.s3.form
  have HV3 := Lib.hid hv3
  clear hv3
  have hs1 := Lib.hid (show Sl 30 2 C2 v1 [] L1 from hv ▸ hC.s1)
  have hs2 := Lib.hid (show Sl 136 3 C3 v2 [] L2 from hy ▸ hC.s2)
  clear h1 hv hy hO
  go_enter Try.func45, Try.ntmps45
  go_wp2_with (go_at_call 80; refine (cmay B w0 b s _ _ who _ hX (fun p hp => List.mem_cons_of_mem _ (List.mem_append_left _ hp)) hOF).mono ?_; rintro e w1 ⟨rfl, hO1⟩; rw [H1.out])
  have hO2 := (own_flat1 hO1).shuf [[_], [_], L1, L2, L3, F] [2, 1, 3, 4, 0, 5] rfl rfl
  clear hO1 hOF
  refine (take86_none B w0 b 2 113 _ v1 L1 _ _ hs1.out rfl hO2).mono ?_
  rintro e w2 ⟨rfl, hO3⟩
  have hO4 := (hO3.junk (.cells #[.int .i64 0, .int .i64 0] 30)).shuf [L1, [_], L2, L3, [_], F] [2, 1, 0, 3, 4, 5] rfl rfl
  clear hO2 hO3
  go_wp2_with fail
  refine (take82_none B w0 b 3 113 _ v2 L2 _ _ hs2.out rfl hO4).mono ?_
  rintro e w3 ⟨rfl, hO5⟩
  clear hO4
  have hZ := hO5.shuf [L2, [_], L1, L3, [_], F] [4, 1, 2, 0, 3, 5] rfl rfl
  have hcb := hZ.get (b, cobj s.room v1 v2 v3 s.shut) (by simp [cat])
  have c5 : w3.cell? ⟨b, 5, none⟩ = some (.bool s.shut) := cell_of_get hcb 5
  have hbl := lt_of_get hcb
  rw [H2.out] at c5
  have HO6 := Lib.hid ((hO5.shuf [L2, [_], L1, L3, [_], F] [3, 1, 2, 0, 4, 5] rfl rfl).junk zbox)
  have HC4 := Lib.hid (show (w3.alloc zbox).cell? ⟨b, 4, none⟩ = some (.slice a3 s.rcv.length p3) by rw [← HV3.out]; exact cell_of_get (HO6.out.get (b, cobj s.room v1 v2 v3 s.shut) (by simp [cat])) 4)
  clear hO5 hcb hZ
  go_wp2_with fail
  refine (cwaits_full B w0 b 4 ⟨who, 0, 0⟩ _ _ _ _ _ HC4.out h5 HO6.out).mono ?_
  rintro e w5 ⟨rfl, hO7⟩
  have hZ := hO7.shuf [L3, [_], L1, L2, [_], F] [4, 1, 2, 3, 0, 5] rfl rfl
  obtain ⟨z0, z1, z2, z3, z4⟩ := z5 hZ.head
  have zf := free_of_get hZ.head
  have zl := lt_of_get hZ.head
  have zl1 : w.heap.size < w5.heap.size + 1 := by omega
  have zl2 : w.heap.size < w5.heap.size + 1 + 1 := by omega
  clear hO7
  go_wp2
  have hO9 := (out5 hZ (.bool false) (.int .i64 0) (.int .i64 0) (.int .i64 0) (.slice none 0 0))
  have rr := z5 (hO9.get (w.heap.size, Obj.cells #[.bool false, .int .i64 0, .int .i64 0, .int .i64 0, (.slice none 0 0)] 33 (0, 0)) (by simp))
  obtain ⟨r0, r1, r2, r3, r4⟩ := rr
  have HO9 := Lib.hid (own_pack (L1 := L1) (L2 := L2) (L3 := L3) (R := [] ++ F) hO9.tail)
  clear hO9 z0 z1 z2 z3 z4 hZ
  refine bodyPost_ret (v := .tuple #[outV false 0 0 0 (.slice none 0 0), .int .i64 7]) (by simp [results, Try.results45, go_sem, r0, r1, r2, r3, r4]) rfl ?_
  exact cout_mk _ HR rfl Sl.nil hX HO9.out

set_option maxRecDepth 100000 in
set_option maxHeartbeats 4000000 in
theorem crecv_wait (B : Nat) (w0 : World) (b : Nat) (s : CS) (L F : List (Nat × Obj)) (who : Int) (w : World) (hX : Cx b s L) (hO : Own B w0 w (L ++ F)) (h1 : mayC s who = 0) (hv : s.vals = []) (hy : s.snd = []) (h2 : s.shut = false) (h5 : ¬ 256 ≤ s.rcv.length) :
    Calls Try.prog 45 #[.pointer (some ⟨b, 0, none⟩), .int .i64 who] w (COutPost B w0 b F (recvC s who)) := by
  have hOF : Own B w0 (w.alloc outZ) ((w.heap.size, outZ) :: (L ++ F)) := hO.alloc outZ
  have HR := Lib.hid (show recvC s who = ⟨false, ⟨0, 0⟩, 0, [], 0, ⟨s.room, s.vals, s.snd, s.rcv ++ [⟨who, 0, 0⟩], s.shut⟩⟩ by simp [recvC, h1, hv, hy, h2, h5])
  have H2 := Lib.hid h2
  clear h2
  have H1 := Lib.hid h1
  have hX' := hX
  obtain ⟨v1, v2, v3, L1, L2, L3, hC, rfl⟩ := hX'
  obtain ⟨a3, p3, hv3, _, _⟩ := hC.s3.form
  have HV3 := Lib.hid hv3
  clear hv3
  have hs1 := Lib.hid (show Sl 30 2 C2 v1 [] L1 from hv ▸ hC.s1)
  have hs2 := Lib.hid (show Sl 136 3 C3 v2 [] L2 from hy ▸ hC.s2)
  clear h1 hv hy hO
  go_enter Try.func45, Try.ntmps45
  go_wp2_with (go_at_call 80; refine (cmay B w0 b s _ _ who _ hX (fun p hp => List.mem_cons_of_mem _ (List.mem_append_left _ hp)) hOF).mono ?_; rintro e w1 ⟨rfl, hO1⟩; rw [H1.out])
  have hO2 := (own_flat1 hO1).shuf [[_], [_], L1, L2, L3, F] [2, 1, 3, 4, 0, 5] rfl rfl
  clear hO1 hOF
  refine (take86_none B w0 b 2 113 _ v1 L1 _ _ hs1.out rfl hO2).mono ?_
  rintro e w2 ⟨rfl, hO3⟩
  have hO4 := (hO3.junk (.cells #[.int .i64 0, .int .i64 0] 30)).shuf [L1, [_], L2, L3, [_], F] [2, 1, 0, 3, 4, 5] rfl rfl
  clear hO2 hO3
  go_wp2_with fail
  refine (take82_none B w0 b 3 113 _ v2 L2 _ _ hs2.out rfl hO4).mono ?_
  rintro e w3 ⟨rfl, hO5⟩
  clear hO4
  have hZ := hO5.shuf [L2, [_], L1, L3, [_], F] [4, 1, 2, 0, 3, 5] rfl rfl
  have hcb := hZ.get (b, cobj s.room v1 v2 v3 s.shut) (by simp [cat])
  have c5 : w3.cell? ⟨b, 5, none⟩ = some (.bool s.shut) := cell_of_get hcb 5
  have hbl := lt_of_get hcb
  rw [H2.out] at c5
  have HO6 := Lib.hid ((hO5.shuf [L2, [_], L1, L3, [_], F] [3, 1, 2, 0, 4, 5] rfl rfl).junk zbox)
  have HC4 := Lib.hid (show (w3.alloc zbox).cell? ⟨b, 4, none⟩ = some (.slice a3 s.rcv.length p3) by rw [← HV3.out]; exact cell_of_get (HO6.out.get (b, cobj s.room v1 v2 v3 s.shut) (by simp [cat])) 4)
  clear hO5 hcb hZ
  go_wp2_with fail
  refine (cwaits_put B w0 b 4 113 _ s.rcv ⟨who, 0, 0⟩ v3 L3 _ _ hC.s3 rfl HO6.out (by omega)).mono ?_
  rintro e w5 ⟨rfl, v', L', hS', hO7⟩
  have hZ := hO7.shuf [L', [_], L1, L2, [_], F] [4, 1, 2, 3, 0, 5] rfl rfl
  obtain ⟨z0, z1, z2, z3, z4⟩ := z5 hZ.head
  have zf := free_of_get hZ.head
  have zl := lt_of_get hZ.head
  have zl1 : w.heap.size < w5.heap.size + 1 := by omega
  have zl2 : w.heap.size < w5.heap.size + 1 + 1 := by omega
  clear hO7
  go_wp2
  have hO9 := (out5 hZ (.bool false) (.int .i64 0) (.int .i64 0) (.int .i64 0) (.slice none 0 0))
  have rr := z5 (hO9.get (w.heap.size, Obj.cells #[.bool false, .int .i64 0, .int .i64 0, .int .i64 0, (.slice none 0 0)] 33 (0, 0)) (by simp))
  obtain ⟨r0, r1, r2, r3, r4⟩ := rr
  have HO9 := Lib.hid (own_pack (L1 := L1) (L2 := L2) (L3 := L') (R := [] ++ F) hO9.tail)
  clear hO9 z0 z1 z2 z3 z4 hZ
  refine bodyPost_ret (v := .tuple #[outV false 0 0 0 (.slice none 0 0), .int .i64 0]) (by simp [results, Try.results45, go_sem, r0, r1, r2, r3, r4]) rfl ?_
  exact cout_mk _ HR rfl Sl.nil ⟨v1, v2, v', L1, L2, L', ⟨hC.s1, hC.s2, hS', hC.l1, hC.l2, by simp; omega, hC.r0, hC.r1⟩, rfl⟩ HO9.out

theorem crecv (B : Nat) (w0 : World) (b : Nat) (s : CS) (L F : List (Nat × Obj)) (who : Int) (w : World) (hX : Cx b s L) (hO : Own B w0 w (L ++ F)) :
    Calls Try.prog 45 #[.pointer (some ⟨b, 0, none⟩), .int .i64 who] w (COutPost B w0 b F (recvC s who)) := by
  rcases mayC_cases s who with h1 | h1
  · cases hv : s.vals with
    | cons v vs =>
      cases hy : s.snd with
      | cons y r => exact crecv_both B w0 b s L F who w hX hO h1 v vs hv y r hy
      | nil => exact crecv_val B w0 b s L F who w hX hO h1 v vs hv hy
    | nil =>
      cases hy : s.snd with
      | cons y r => exact crecv_snd B w0 b s L F who w hX hO h1 hv y r hy
      | nil =>
        cases h2 : s.shut with
        | true => exact crecv_shut B w0 b s L F who w hX hO h1 hv hy h2
        | false =>
          by_cases h5 : 256 ≤ s.rcv.length
          · exact crecv_full B w0 b s L F who w hX hO h1 hv hy h2 h5
          · exact crecv_wait B w0 b s L F who w hX hO h1 hv hy h2 h5
  · exact crecv_bad B w0 b s L F who w hX hO h1

end Go.Proofs.Ytidnkienkdlmkaa
