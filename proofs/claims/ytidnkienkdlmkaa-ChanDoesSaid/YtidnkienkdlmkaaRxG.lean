/-
  shuttlelaw15.does: the channel and the document's answer the same, and stay in one state. Conditions: at most 64 values, 256 waiters.
-/
import Derived.Test.YtidnkienkdlmkaaRxC
import Derived.Test.YtidnkienkdlmkaaRxE
import Derived.Test.YtidnkienkdlmkaaChAwake
import Derived.Deep.RegionHeld3
import Derived.Deep.DrawnRows
import Derived.Carry
namespace Go.Proofs.Ytidnkienkdlmkaa
open Go.RowKit Go.Sh
attribute [local go_sem ↓] Go.wp_at_zero Go.wp_at_succ

abbrev ob96 (d who n : Int) : Obj := Obj.cells #[.int .i64 d, .int .i64 who, .int .i64 n] 96 (0, 0)
theorem ob3 {w : World} {O : Nat} {d who n : Int} (h : w.heap[O]? = some (ob96 d who n)) : w.cell? ⟨O, 0, none⟩ = some (.int .i64 d) ∧ w.cell? ⟨O, 1, none⟩ = some (.int .i64 who) ∧ w.cell? ⟨O, 2, none⟩ = some (.int .i64 n) := ⟨cell_of_get h 0, cell_of_get h 1, cell_of_get h 2⟩

def actC (s : CS) (d who n : Int) : CS :=
  if d = 0 then (sendC s who ⟨1, n⟩).st else if d = 1 then (recvC s who).st else if d = 2 then (closeC s).st else if d = 3 then (dropC s who).2 else s

def CDoesPost (B : Nat) (w0 : World) (b br : Nat) (F : List (Nat × Obj)) (s : CS) (e : Ending) (w' : World) : Prop :=
  e = .returned (.bool true) ∧ ∃ L' Lr', Cx b s L' ∧ Rcx br s Lr' ∧ Own B w0 w' (L' ++ (Lr' ++ F))

theorem cdoes_mk {B : Nat} {w0 : World} {b br : Nat} {F L' Lr' : List (Nat × Obj)} {s s' : CS} {e : Ending} {w' : World} (HR : Hid (s = s')) (he : e = .returned (.bool true)) (h1 : Cx b s' L') (h2 : Rcx br s' Lr') (hO : Own B w0 w' (L' ++ (Lr' ++ F))) : CDoesPost B w0 b br F s e w' := by
  rw [HR.out]
  exact ⟨he, L', Lr', h1, h2, hO⟩

theorem sendC_len (s : CS) (who : Int) (x : V2) : (sendC s who x).wakes.length ≤ 1 := by
  unfold sendC
  split
  · simp
  · split
    · simp
    · split
      · simp
      · split
        · simp
        · split <;> simp

theorem recvC_len (s : CS) (who : Int) : (recvC s who).wakes.length ≤ 1 := by
  unfold recvC
  split
  · simp
  · split
    · simp
    · simp
    · simp
    · split
      · simp
      · split <;> simp

theorem value49_v (B : Nat) (w0 : World) (F : List (Nat × Obj)) (d who n : Int) (w : World) (hO : Own B w0 w F) : Calls Try.prog 49 #[.agg #[.int .i64 d, .int .i64 who, .int .i64 n]] w fun e w' => e = .returned (.agg #[.int .i64 1, .int .i64 n]) ∧ Own B w0 w' F := by
  refine (value49 d who n w).mono ?_
  rintro e w' ⟨he, rfl⟩
  exact ⟨he, (hO.junk _).junk _⟩

def SCut (B : Nat) (w0 : World) (X : CS → List (Nat × Obj) → Prop) (r : CR) (O : Nat) (d who n : Int) (R : List (Nat × Obj)) (s7 s8 : Value) (wx : World) : Prop :=
  ∃ Z ak ck Lk L', s7 = .pointer (some ⟨Z, 0, none⟩) ∧ s8 = .int .i64 r.err ∧ Sl 38 4 W4 (.slice ak r.wakes.length ck) r.wakes Lk ∧ X r.st L' ∧ Own B w0 wx ((Z, outO r.done r.v.t r.v.n r.fault (.slice ak r.wakes.length ck)) :: (O, ob96 d who n) :: (L' ++ (Lk ++ R)))

set_option maxRecDepth 100000 in
set_option maxHeartbeats 4000000 in
theorem cdoes_send (B : Nat) (w0 : World) (b br : Nat) (s : CS) (L Lr F : List (Nat × Obj)) (who n : Int) (w : World) (hX : Cx b s L) (hR : Rcx br s Lr) (hO : Own B w0 w (L ++ (Lr ++ F))) :
    Calls Try.prog 59 #[.pointer (some ⟨b, 0, none⟩), .pointer (some ⟨br, 0, none⟩), .agg #[.int .i64 0, .int .i64 who, .int .i64 n]] w (CDoesPost B w0 b br F (actC s 0 who n)) := by
  obtain ⟨r, hr⟩ : ∃ r, sendC s who ⟨1, n⟩ = r := ⟨_, rfl⟩
  have HRS := Lib.hid (show actC s 0 who n = r.st by rw [← hr]; rfl)
  have hln := sendC_len s who ⟨1, n⟩
  rw [hr] at hln
  have HLN := Lib.hid (show r.wakes.length ≤ 100000 by omega)
  have HLR := Lib.hid hr
  have HXX := Lib.hid hX
  have HRR := Lib.hid hR
  clear hr hX hR hln
  have hOo := hO.allocAt (ob96 0 who n) (n := w.heap.size) rfl
  clear hO
  go_enter Try.func59, Try.ntmps59
  go_upto_region 3 with fail
  obtain ⟨O, hOe⟩ : ∃ O, w.heap.size = O := ⟨_, rfl⟩
  rw [hOe] at hOo ⊢
  generalize w.alloc (.cells #[.int .i64 0, .int .i64 who, .int .i64 n] 96) = W at hOo ⊢
  clear hOe
  have hO := hOo
  clear hOo
  have HOd := Lib.hid (hO.shuf [[_], L, Lr ++ F] [1, 0, 2] rfl rfl).drew
  have HOa := Lib.hid ((hO.allocAt outZ (n := W.heap.size) rfl).shuf [[_], [_], L, Lr ++ F] [2, 0, 1, 3] rfl rfl).drew
  have hS := ob3 hO.head
  obtain ⟨k0, k1, k2⟩ := hS
  have hS := ob3 hO.head
  have hn1 := World.new_ne W _ k0
  clear hO
  go_cut [7, 8] (fun s7 s8 wx => SCut B w0 (fun s L => Cx b s L) r O 0 who n (Lr ++ F) s7 s8 wx)
  case first =>
    go_region_held3 (fun w' => w'.cell? ⟨O, 0, none⟩ = some (.int .i64 0) ∧ w'.cell? ⟨O, 1, none⟩ = some (.int .i64 who) ∧ w'.cell? ⟨O, 2, none⟩ = some (.int .i64 n))
      (first
        | with_reducible exact hS
        | (go_keep; done)
        | fail "no keep")
      (first
        | (go_at_call 44; (with_reducible refine (csend B w0 b s L _ who ⟨1, n⟩ _ HXX.out hCa).mono ?_); rw [HLR.out]; rintro e w3 ⟨wk, Lk, L', rfl, hK, hX3, hEc⟩; obtain ⟨ak, ck, rfl, _, _⟩ := hK.form; have hS := ob3 (hEc.get (O, ob96 0 who n) (by simp [cat])); obtain ⟨z0, z1, z2, z3, z4⟩ := z5 (hEc.get (W.heap.size, outZ) (by simp [cat])); have zf := free_of_get (hEc.get (W.heap.size, outZ) (by simp [cat])); have zl := lt_of_get (hEc.get (W.heap.size, outZ) (by simp [cat])))
        | (go_at_call 44; (with_reducible refine (csend B w0 b s L _ who ⟨1, n⟩ _ HXX.out ((hCd.allocAt outZ (n := w2.heap.size) rfl).shuf [[_], L, [_], Lr ++ F] [1, 0, 2, 3] rfl rfl)).mono ?_); rw [HLR.out]; rintro e w3 ⟨wk, Lk, L', rfl, hK, hX3, hEb⟩; obtain ⟨ak, ck, rfl, _, _⟩ := hK.form; have hS := ob3 (hEb.get (O, ob96 0 who n) (by simp [cat])); obtain ⟨z0, z1, z2, z3, z4⟩ := z5 (hEb.get (w2.heap.size, outZ) (by simp [cat])); have zf := free_of_get (hEb.get (w2.heap.size, outZ) (by simp [cat])); have zl := lt_of_get (hEb.get (w2.heap.size, outZ) (by simp [cat])))
        | (go_at_call 44; (with_reducible refine (csend B w0 b s L _ who ⟨1, n⟩ _ HXX.out hCd).mono ?_); rw [HLR.out]; rintro e w3 ⟨wk, Lk, L', rfl, hK, hX3, hEa⟩; obtain ⟨ak, ck, rfl, _, _⟩ := hK.form; have hS := ob3 (hEa.get (O, ob96 0 who n) (by simp [cat])); have ol := lt_of_get (hEa.get (O, ob96 0 who n) (by simp [cat])))
        | (go_at_call 49; (with_reducible refine (value49_v B w0 _ 0 who n _ HOa.out).mono ?_); rintro e w2 ⟨rfl, hCa⟩; have hS := ob3 (hCa.get (O, ob96 0 who n) (by simp [cat])))
        | (go_at_call 49; (with_reducible refine (value49_v B w0 _ 0 who n _ HOd.out).mono ?_); rintro e w2 ⟨rfl, hCd⟩; have hS := ob3 (hCd.get (O, ob96 0 who n) (by simp [cat])); have ol := lt_of_get (hCd.get (O, ob96 0 who n) (by simp [cat])); have hn2 : w2.heap.size ≠ O := (by omega))
        | fail "no arm")
    all_goals go_wp2_with fail
    all_goals go_meet
    all_goals first
      | exact ⟨w3.heap.size, ak, ck, Lk, L', rfl, rfl, hK, hX3, (hEa.alloc (outO r.done r.v.t r.v.n r.fault (.slice ak r.wakes.length ck))).shuf [[_], L', Lk, [_], Lr ++ F] [0, 3, 1, 2, 4] rfl rfl⟩
      | exact ⟨W.heap.size, ak, ck, Lk, L', rfl, rfl, hK, hX3, (out5 (hEc.shuf [L', Lk, [_], [_], Lr ++ F] [2, 3, 0, 1, 4] rfl rfl) (.bool r.done) (.int .i64 r.v.t) (.int .i64 r.v.n) (.int .i64 r.fault) (.slice ak r.wakes.length ck))⟩
      | exact ⟨w2.heap.size, ak, ck, Lk, L', rfl, rfl, hK, hX3, (out5 (hEb.shuf [L', Lk, [_], [_], Lr ++ F] [2, 3, 0, 1, 4] rfl rfl) (.bool r.done) (.int .i64 r.v.t) (.int .i64 r.v.n) (.int .i64 r.fault) (.slice ak r.wakes.length ck))⟩
  case rest =>

    clear k0 k1 k2 hS hn1 HOd HOa
    obtain ⟨Za, aa, ca, Lka, La, rfl, rfl, hKa, hXa, hO1⟩ := hcut
    have HKA := Lib.hid hKa
    have HXA := Lib.hid hXa
    have HXX := HRR
    clear hKa hXa HRR
    go_upto_region 4 with fail
    have hO := hO1.shuf [[_], [_], La, Lka, Lr, F] [1, 4, 0, 2, 3, 5] rfl rfl
    clear hO1
    obtain ⟨RR, hRR⟩ : ∃ RR, cat [[(Za, outO r.done r.v.t r.v.n r.fault (.slice aa r.wakes.length ca))], La, Lka, F] = RR := ⟨_, rfl⟩
    have hO : Own B w0 wc ((O, ob96 0 who n) :: (Lr ++ RR)) := by rw [← hRR]; exact hO
    have HRQ := Lib.hid hRR
    clear hRR
    generalize wc = W at hO ⊢
    have HOd := Lib.hid (hO.shuf [[_], Lr, RR] [1, 0, 2] rfl rfl).drew
    have HOa := Lib.hid ((hO.allocAt outZ (n := W.heap.size) rfl).shuf [[_], [_], Lr, RR] [2, 0, 1, 3] rfl rfl).drew
    have hS := ob3 hO.head
    obtain ⟨k0, k1, k2⟩ := hS
    have hS := ob3 hO.head
    have hn1 := World.new_ne W _ k0
    clear hO
    go_cut [9, 10] (fun s7 s8 wx => SCut B w0 (fun s L => Rcx br s L) r O 0 who n (RR) s7 s8 wx)
    case first =>
      go_region_held3 (fun w' => w'.cell? ⟨O, 0, none⟩ = some (.int .i64 0) ∧ w'.cell? ⟨O, 1, none⟩ = some (.int .i64 who) ∧ w'.cell? ⟨O, 2, none⟩ = some (.int .i64 n))
        (first
          | with_reducible exact hS
          | (go_keep; done)
          | fail "no keep")
        (first
          | (go_at_call 96; (with_reducible refine (rcsend B w0 br s Lr _ who ⟨1, n⟩ _ HXX.out hCa).mono ?_); rw [HLR.out]; rintro e w3 ⟨wk, Lk, L', rfl, hK, hX3, hEc⟩; obtain ⟨ak, ck, rfl, _, _⟩ := hK.form; have hS := ob3 (hEc.get (O, ob96 0 who n) (by simp [cat])); obtain ⟨z0, z1, z2, z3, z4⟩ := z5 (hEc.get (W.heap.size, outZ) (by simp [cat])); have zf := free_of_get (hEc.get (W.heap.size, outZ) (by simp [cat])); have zl := lt_of_get (hEc.get (W.heap.size, outZ) (by simp [cat])))
          | (go_at_call 96; (with_reducible refine (rcsend B w0 br s Lr _ who ⟨1, n⟩ _ HXX.out ((hCd.allocAt outZ (n := w2.heap.size) rfl).shuf [[_], Lr, [_], RR] [1, 0, 2, 3] rfl rfl)).mono ?_); rw [HLR.out]; rintro e w3 ⟨wk, Lk, L', rfl, hK, hX3, hEb⟩; obtain ⟨ak, ck, rfl, _, _⟩ := hK.form; have hS := ob3 (hEb.get (O, ob96 0 who n) (by simp [cat])); obtain ⟨z0, z1, z2, z3, z4⟩ := z5 (hEb.get (w2.heap.size, outZ) (by simp [cat])); have zf := free_of_get (hEb.get (w2.heap.size, outZ) (by simp [cat])); have zl := lt_of_get (hEb.get (w2.heap.size, outZ) (by simp [cat])))
          | (go_at_call 96; (with_reducible refine (rcsend B w0 br s Lr _ who ⟨1, n⟩ _ HXX.out hCd).mono ?_); rw [HLR.out]; rintro e w3 ⟨wk, Lk, L', rfl, hK, hX3, hEa⟩; obtain ⟨ak, ck, rfl, _, _⟩ := hK.form; have hS := ob3 (hEa.get (O, ob96 0 who n) (by simp [cat])); have ol := lt_of_get (hEa.get (O, ob96 0 who n) (by simp [cat])))
          | (go_at_call 49; (with_reducible refine (value49_v B w0 _ 0 who n _ HOa.out).mono ?_); rintro e w2 ⟨rfl, hCa⟩; have hS := ob3 (hCa.get (O, ob96 0 who n) (by simp [cat])))
          | (go_at_call 49; (with_reducible refine (value49_v B w0 _ 0 who n _ HOd.out).mono ?_); rintro e w2 ⟨rfl, hCd⟩; have hS := ob3 (hCd.get (O, ob96 0 who n) (by simp [cat])); have ol := lt_of_get (hCd.get (O, ob96 0 who n) (by simp [cat])); have hn2 : w2.heap.size ≠ O := (by omega))
          | fail "no arm")
      all_goals go_wp2_with fail
      all_goals go_meet
      all_goals first
        | exact ⟨w3.heap.size, ak, ck, Lk, L', rfl, rfl, hK, hX3, (hEa.alloc (outO r.done r.v.t r.v.n r.fault (.slice ak r.wakes.length ck))).shuf [[_], L', Lk, [_], RR] [0, 3, 1, 2, 4] rfl rfl⟩
        | exact ⟨W.heap.size, ak, ck, Lk, L', rfl, rfl, hK, hX3, (out5 (hEc.shuf [L', Lk, [_], [_], RR] [2, 3, 0, 1, 4] rfl rfl) (.bool r.done) (.int .i64 r.v.t) (.int .i64 r.v.n) (.int .i64 r.fault) (.slice ak r.wakes.length ck))⟩
        | exact ⟨w2.heap.size, ak, ck, Lk, L', rfl, rfl, hK, hX3, (out5 (hEb.shuf [L', Lk, [_], [_], RR] [2, 3, 0, 1, 4] rfl rfl) (.bool r.done) (.int .i64 r.v.t) (.int .i64 r.v.n) (.int .i64 r.fault) (.slice ak r.wakes.length ck))⟩
    case rest =>

      clear k0 k1 k2 hS hn1 HOd HOa
      obtain ⟨Zb, ab, cb, Lkb, Lb, rfl, rfl, hKb, hXb, hO1⟩ := hcut
      rw [← HRQ.out] at hO1
      have hO2 := hO1.shuf [[_], [_], Lb, Lkb, [_], La, Lka, F] [0, 4, 5, 2, 7, 3, 6, 1] rfl rfl
      obtain ⟨x0, x1, x2, x3, x4⟩ := z5 hO2.head
      have xl := lt_of_get hO2.head
      obtain ⟨y0, y1, y2, y3, y4⟩ := z5 hO2.tail.head
      have yl := lt_of_get hO2.tail.head
      have RA := Lib.hid (Sl_rd (w := wc) HKA.out (fun p hp => hO2.get p (by simp [cat, hp])))
      have RB := Lib.hid (Sl_rd (w := wc) hKb (fun p hp => hO2.get p (by simp [cat, hp])))
      have HXB := Lib.hid hXb
      have HO2 := Lib.hid hO2
      clear hO1 hO2 hKb hXb
      obtain ⟨rd, ⟨rt, rn⟩, rf, rw', re, rs⟩ := r
      dsimp only at *
      go_wp2_with fail
      refine (same24 B w0 _ rd rt rn rf rw' _ _ _ RA.out RB.out HO2.out HLN.out).mono ?_
      rintro e w9 ⟨rfl, hO3⟩
      have HO4 := Lib.hid (show Own B w0 w9 ((La ++ (Lb ++ F)) ++ (Lkb ++ (Lka ++ [(O, ob96 0 who n)]))) from by simpa [cat, List.append_assoc] using hO3.tail.tail).left
      clear hO3 x0 x1 x2 x3 x4 y0 y1 y2 y3 y4
      go_wp2
      go_ret
      exact cdoes_mk HRS rfl HXA.out HXB.out HO4.out

set_option maxRecDepth 100000 in
set_option maxHeartbeats 4000000 in
theorem cdoes_recv (B : Nat) (w0 : World) (b br : Nat) (s : CS) (L Lr F : List (Nat × Obj)) (who n : Int) (w : World) (hX : Cx b s L) (hR : Rcx br s Lr) (hO : Own B w0 w (L ++ (Lr ++ F))) :
    Calls Try.prog 59 #[.pointer (some ⟨b, 0, none⟩), .pointer (some ⟨br, 0, none⟩), .agg #[.int .i64 1, .int .i64 who, .int .i64 n]] w (CDoesPost B w0 b br F (actC s 1 who n)) := by
  obtain ⟨r, hr⟩ : ∃ r, recvC s who = r := ⟨_, rfl⟩
  have HRS := Lib.hid (show actC s 1 who n = r.st by rw [← hr]; rfl)
  have hln := recvC_len s who
  rw [hr] at hln
  have HLN := Lib.hid (show r.wakes.length ≤ 100000 by omega)
  have HLR := Lib.hid hr
  have HXX := Lib.hid hX
  have HRR := Lib.hid hR
  clear hr hX hR hln
  have hOo := hO.allocAt (ob96 1 who n) (n := w.heap.size) rfl
  clear hO
  go_enter Try.func59, Try.ntmps59
  go_upto_region 7 with fail
  obtain ⟨O, hOe⟩ : ∃ O, w.heap.size = O := ⟨_, rfl⟩
  rw [hOe] at hOo ⊢
  generalize w.alloc (.cells #[.int .i64 1, .int .i64 who, .int .i64 n] 96) = W at hOo ⊢
  clear hOe
  have hO1 := hOo.shuf [[_], L, Lr, F] [1, 0, 2, 3] rfl rfl
  obtain ⟨k0, k1, k2⟩ := ob3 hOo.head
  have HO1 := Lib.hid hO1
  clear hOo hO1
  obtain ⟨rd, ⟨rt, rn⟩, rf, rw', re, rs⟩ := r
  dsimp only at HRS HLN
  go_wp2_with fail
  refine (crecv B w0 b s L _ who _ HXX.out HO1.out).mono ?_
  rw [HLR.out]
  rintro e w2 ⟨wka, Lka, La, rfl, hKa, hXa, hO2⟩
  dsimp only at hKa hXa ⊢
  obtain ⟨aa, ca, rfl, _, _⟩ := hKa.form
  obtain ⟨Za, hZa⟩ : ∃ Za, w2.heap.size = Za := ⟨_, rfl⟩
  obtain ⟨k0, k1, k2⟩ := ob3 (hO2.get (O, ob96 1 who n) (by simp [cat]))
  have ol := lt_of_get (hO2.get (O, ob96 1 who n) (by simp [cat]))
  have ol2 : O < Za := by omega
  have HO3 := Lib.hid ((hO2.allocAt (outO rd rt rn rf (.slice aa rw'.length ca)) (n := Za) hZa).shuf [[_], La, Lka, [_], Lr, F] [4, 0, 1, 2, 3, 5] rfl rfl)
  have HKA := Lib.hid hKa
  have HXA := Lib.hid hXa
  clear hKa hXa hO2 HO1
  go_wp2_with fail
  refine (rcrecv B w0 br s Lr _ who _ HRR.out HO3.out).mono ?_
  rw [HLR.out]
  rintro e w3 ⟨wkb, Lkb, Lb, rfl, hKb, hXb, hO4⟩
  dsimp only at hKb hXb ⊢
  obtain ⟨ab, cb, rfl, _, _⟩ := hKb.form
  clear hZa
  obtain ⟨Zb, hZb⟩ : ∃ Zb, w3.heap.size = Zb := ⟨_, rfl⟩
  have hO5 := (hO4.allocAt (outO rd rt rn rf (.slice ab rw'.length cb)) (n := Zb) hZb).shuf [[_], Lb, Lkb, [_], La, Lka, [_], F] [0, 3, 4, 1, 7, 2, 5, 6] rfl rfl
  have RA := Lib.hid (Sl_rd (w := (w3.alloc (outO rd rt rn rf (.slice ab rw'.length cb)))) HKA.out (fun p hp => hO5.get p (by simp [cat, hp])))
  have RB := Lib.hid (Sl_rd (w := (w3.alloc (outO rd rt rn rf (.slice ab rw'.length cb)))) hKb (fun p hp => hO5.get p (by simp [cat, hp])))
  obtain ⟨y0, y1, y2, y3, y4⟩ := z5 (hO4.get (Za, outO rd rt rn rf (.slice aa rw'.length ca)) (by simp [cat]))
  have yl := lt_of_get (hO4.get (Za, outO rd rt rn rf (.slice aa rw'.length ca)) (by simp [cat]))
  have yl2 : Za < Zb := by omega
  have HXB := Lib.hid hXb
  have HO5 := Lib.hid hO5
  clear hKb hXb hO4 hO5 HO3 k0 k1 k2
  go_wp2_with fail
  refine (same24 B w0 _ rd rt rn rf rw' _ _ _ RA.out RB.out HO5.out HLN.out).mono ?_
  rintro e w9 ⟨rfl, hO6⟩
  have HO7 := Lib.hid (show Own B w0 w9 ((La ++ (Lb ++ F)) ++ (Lkb ++ (Lka ++ [(O, ob96 1 who n)]))) from by simpa [cat, List.append_assoc] using (hO6.tail.tail.shuf [La, Lb, F, Lkb, Lka, [_]] [0, 1, 2, 3, 4, 5] rfl rfl)).left
  clear hO6 y0 y1 y2 y3 y4 hZb
  go_wp2
  go_ret
  exact cdoes_mk HRS rfl HXA.out HXB.out HO7.out

set_option maxRecDepth 100000 in
set_option maxHeartbeats 4000000 in
theorem cdoes_else (B : Nat) (w0 : World) (b br : Nat) (s : CS) (L Lr F : List (Nat × Obj)) (d who n : Int) (w : World) (hX : Cx b s L) (hR : Rcx br s Lr) (hO : Own B w0 w (L ++ (Lr ++ F))) (hd : d < 0 ∨ 3 < d) :
    Calls Try.prog 59 #[.pointer (some ⟨b, 0, none⟩), .pointer (some ⟨br, 0, none⟩), .agg #[.int .i64 d, .int .i64 who, .int .i64 n]] w (CDoesPost B w0 b br F (actC s d who n)) := by
  have HRS := Lib.hid (show actC s d who n = s by unfold actC; rw [if_neg (by omega), if_neg (by omega), if_neg (by omega), if_neg (by omega)])
  have e0 : (d == 0) = false := by simp; omega
  have e1 : (d == 1) = false := by simp; omega
  have e2 : (d == 2) = false := by simp; omega
  have e3 : (d == 3) = false := by simp; omega
  have HO := Lib.hid (hO.junk (ob96 d who n))
  clear hO
  go_enter Try.func59, Try.ntmps59
  go_wp2
  go_ret
  exact cdoes_mk HRS rfl hX hR HO.out

set_option maxRecDepth 100000 in
set_option maxHeartbeats 4000000 in
theorem cdoes_close (B : Nat) (w0 : World) (b br : Nat) (s : CS) (L Lr F : List (Nat × Obj)) (who n : Int) (w : World) (hX : Cx b s L) (hR : Rcx br s Lr) (hO : Own B w0 w (L ++ (Lr ++ F))) :
    Calls Try.prog 59 #[.pointer (some ⟨b, 0, none⟩), .pointer (some ⟨br, 0, none⟩), .agg #[.int .i64 2, .int .i64 who, .int .i64 n]] w (CDoesPost B w0 b br F (actC s 2 who n)) := by
  obtain ⟨r, hr⟩ : ∃ r, closeC s = r := ⟨_, rfl⟩
  have HRS := Lib.hid (show actC s 2 who n = r.st by rw [← hr]; rfl)
  have hln : r.wakes.length ≤ 512 := by
    obtain ⟨_, h2, h3, _⟩ := hR.len
    rw [← hr]
    unfold closeC
    split
    · simp
    · simp; omega
  have HER := Lib.hid (show r.err = 0 by rw [← hr]; unfold closeC; split <;> rfl)
  have HLN := Lib.hid (show r.wakes.length ≤ 100000 by omega)
  have HLR := Lib.hid hr
  have HXX := Lib.hid hX
  have HRR := Lib.hid hR
  clear hr hX hR hln
  have hOo := hO.allocAt (ob96 2 who n) (n := w.heap.size) rfl
  clear hO
  go_enter Try.func59, Try.ntmps59
  go_upto_region 11 with fail
  obtain ⟨O, hOe⟩ : ∃ O, w.heap.size = O := ⟨_, rfl⟩
  rw [hOe] at hOo ⊢
  generalize w.alloc (.cells #[.int .i64 2, .int .i64 who, .int .i64 n] 96) = W at hOo ⊢
  clear hOe
  have hO1 := hOo.shuf [[_], L, Lr, F] [1, 0, 2, 3] rfl rfl
  have HO1 := Lib.hid hO1
  clear hOo hO1
  obtain ⟨rd, ⟨rt, rn⟩, rf, rw', re, rs⟩ := r
  dsimp only at HRS HLN HER
  obtain rfl := HER.out
  go_wp2_with fail
  refine (cclose B w0 b s L _ _ HXX.out HO1.out).mono ?_
  rw [HLR.out]
  rintro e w2 ⟨wka, Lka, La, rfl, hKa, hXa, hO2⟩
  dsimp only at hKa hXa ⊢
  obtain ⟨aa, ca, rfl, _, _⟩ := hKa.form
  have hO3 := (hO2.allocAt (outO rd rt rn rf (.slice aa rw'.length ca)) (n := w2.heap.size) rfl).shuf [[_], La, Lka, [_], Lr, F] [4, 0, 1, 2, 3, 5] rfl rfl
  have HKA := Lib.hid hKa
  have HXA := Lib.hid hXa
  clear hKa hXa hO2 HO1
  go_upto_region 12 with fail
  obtain ⟨Za, hZa⟩ : ∃ Za, w2.heap.size = Za := ⟨_, rfl⟩
  rw [hZa] at hO3 ⊢
  generalize w2.alloc (.cells #[.bool rd, .int .i64 rt, .int .i64 rn, .int .i64 rf, .slice aa rw'.length ca] 33) = W2 at hO3 ⊢
  clear hZa
  have hS := z5 (hO3.get (Za, outO rd rt rn rf (.slice aa rw'.length ca)) (by simp [cat]))
  obtain ⟨x0, x1, x2, x3, x4⟩ := hS
  have HOd := Lib.hid hO3.drew
  clear hO3
  go_region_held3 (fun w' => w'.cell? ⟨Za, 0, none⟩ = some (.bool rd) ∧ w'.cell? ⟨Za, 1, none⟩ = some (.int .i64 rt) ∧ w'.cell? ⟨Za, 2, none⟩ = some (.int .i64 rn) ∧ w'.cell? ⟨Za, 3, none⟩ = some (.int .i64 rf) ∧ w'.cell? ⟨Za, 4, none⟩ = some (.slice aa rw'.length ca))
    (first
      | with_reducible exact hS
      | (go_keep; done)
      | fail "no keep")
    (first
      | (go_at_call 24; (with_reducible refine (same24 B w0 _ rd rt rn rf rw' _ _ _ (Sl_rd HKA.out (fun p hp => hC.get p (by simp [hp]))) (Sl_rd hKb (fun p hp => hC.get p (by simp [hp]))) hC HLN.out).mono ?_); rintro e w9 ⟨rfl, hD⟩; have hS := z5 (hD.get (Za, outO rd rt rn rf (.slice aa rw'.length ca)) (by simp)))
      | (go_at_call 98; (with_reducible refine (rcclose B w0 br s Lr _ _ HRR.out HOd.out).mono ?_); rw [HLR.out]; rintro e w3 ⟨wkb, Lkb, Lb, rfl, hKb, hXb, hC⟩; dsimp only at hKb hXb; dsimp only [cat, List.map, List.getD, List.getElem?_cons_zero, List.getElem?_cons_succ, Option.getD] at hC; obtain ⟨ab, cb, rfl, _, _⟩ := hKb.form; have hS := z5 (hC.get (Za, outO rd rt rn rf (.slice aa rw'.length ca)) (by simp)))
      | fail "no arm")
  all_goals
    have HD := Lib.hid (show Own B w0 w9 ((La ++ (Lb ++ F)) ++ (Lkb ++ (Lka ++ [(O, ob96 2 who n)]))) from by simpa [cat, List.append_assoc] using (hD.shuf [Lb, Lkb, [_], La, Lka, [_], F] [2, 3, 0, 6, 1, 4, 5] rfl rfl).tail).left
    have HXB := Lib.hid hXb
    clear hD hC hKb hXb hS
    go_wp2
    go_ret
    exact cdoes_mk HRS rfl HXA.out HXB.out HD.out

set_option maxRecDepth 100000 in
set_option maxHeartbeats 4000000 in
theorem cdoes_drop (B : Nat) (w0 : World) (b br : Nat) (s : CS) (L Lr F : List (Nat × Obj)) (who n : Int) (w : World) (hX : Cx b s L) (hR : Rcx br s Lr) (hO : Own B w0 w (L ++ (Lr ++ F))) :
    Calls Try.prog 59 #[.pointer (some ⟨b, 0, none⟩), .pointer (some ⟨br, 0, none⟩), .agg #[.int .i64 3, .int .i64 who, .int .i64 n]] w (CDoesPost B w0 b br F (actC s 3 who n)) := by
  obtain ⟨⟨re, rs⟩, hr⟩ : ∃ r, dropC s who = r := ⟨_, rfl⟩
  have HRS := Lib.hid (show actC s 3 who n = rs by show (dropC s who).2 = rs; rw [hr])
  have HLR := Lib.hid hr
  have HXX := Lib.hid hX
  have HRR := Lib.hid hR
  clear hr hX hR
  have hOo := hO.allocAt (ob96 3 who n) (n := w.heap.size) rfl
  clear hO
  go_enter Try.func59, Try.ntmps59
  go_upto_region 14 with fail
  obtain ⟨O, hOe⟩ : ∃ O, w.heap.size = O := ⟨_, rfl⟩
  rw [hOe] at hOo ⊢
  generalize w.alloc (.cells #[.int .i64 3, .int .i64 who, .int .i64 n] 96) = W at hOo ⊢
  clear hOe
  have hS := (ob3 hOo.head).2.1
  have k1 := (ob3 hOo.head).2.1
  have HO1 := Lib.hid (hOo.shuf [[_], L, Lr, F] [1, 0, 2, 3] rfl rfl).drew
  have HO2 := Lib.hid (hOo.shuf [[_], L, Lr, F] [2, 0, 1, 3] rfl rfl).drew
  clear hOo
  go_region_held3 (fun w' => w'.cell? ⟨O, 1, none⟩ = some (.int .i64 who))
    (first
      | with_reducible exact hS
      | (go_keep; done)
      | fail "no keep")
    (first
      | (go_at_call 99; (with_reducible refine (rcdrop99 B w0 br s Lr _ who _ HRR.out (hC1.shuf [La, [_], Lr, F] [2, 0, 1, 3] rfl rfl)).mono ?_); rw [HLR.out]; rintro e w3 ⟨rfl, Lb, hXb, hD⟩; dsimp only at hXb; have hE := hD.shuf [Lb, La, [_], F] [1, 0, 3, 2] rfl rfl; have hS := (ob3 (hE.get (O, ob96 3 who n) (by simp [cat]))).2.1)
      | (go_at_call 51; (with_reducible refine (cdrop B w0 b s L _ who _ HXX.out (hC2.shuf [Lb, [_], L, F] [2, 0, 1, 3] rfl rfl)).mono ?_); rw [HLR.out]; rintro e w3 ⟨rfl, La, hXa, hD⟩; dsimp only at hXa; have hE := hD.shuf [La, Lb, [_], F] [0, 1, 3, 2] rfl rfl; have hS := (ob3 (hE.get (O, ob96 3 who n) (by simp [cat]))).2.1)
      | (go_at_call 51; (with_reducible refine (cdrop B w0 b s L _ who _ HXX.out HO1.out).mono ?_); rw [HLR.out]; rintro e w2 ⟨rfl, La, hXa, hC1⟩; dsimp only at hXa; have hS := (ob3 (hC1.get (O, ob96 3 who n) (by simp [cat]))).2.1)
      | (go_at_call 99; (with_reducible refine (rcdrop99 B w0 br s Lr _ who _ HRR.out HO2.out).mono ?_); rw [HLR.out]; rintro e w2 ⟨rfl, Lb, hXb, hC2⟩; dsimp only at hXb; have hS := (ob3 (hC2.get (O, ob96 3 who n) (by simp [cat]))).2.1)
      | fail "no arm")
  all_goals
    have HE := Lib.hid (show Own B w0 w3 ((La ++ (Lb ++ F)) ++ [(O, ob96 3 who n)]) from by simpa [cat, List.append_assoc] using hE).left
    have HXA := Lib.hid hXa
    have HXB := Lib.hid hXb
    clear hD hE hXa hXb hS
    go_wp2
    go_ret
    exact cdoes_mk HRS rfl HXA.out HXB.out HE.out

theorem cdoes59 (B : Nat) (w0 : World) (b br : Nat) (s : CS) (L Lr F : List (Nat × Obj)) (d who n : Int) (w : World) (hX : Cx b s L) (hR : Rcx br s Lr) (hO : Own B w0 w (L ++ (Lr ++ F))) :
    Calls Try.prog 59 #[.pointer (some ⟨b, 0, none⟩), .pointer (some ⟨br, 0, none⟩), .agg #[.int .i64 d, .int .i64 who, .int .i64 n]] w (CDoesPost B w0 b br F (actC s d who n)) := by
  by_cases h0 : d = 0
  · subst h0; exact cdoes_send B w0 b br s L Lr F who n w hX hR hO
  by_cases h1 : d = 1
  · subst h1; exact cdoes_recv B w0 b br s L Lr F who n w hX hR hO
  by_cases h2 : d = 2
  · subst h2; exact cdoes_close B w0 b br s L Lr F who n w hX hR hO
  by_cases h3 : d = 3
  · subst h3; exact cdoes_drop B w0 b br s L Lr F who n w hX hR hO
  exact cdoes_else B w0 b br s L Lr F d who n w hX hR hO (by omega)

end Go.Proofs.Ytidnkienkdlmkaa
