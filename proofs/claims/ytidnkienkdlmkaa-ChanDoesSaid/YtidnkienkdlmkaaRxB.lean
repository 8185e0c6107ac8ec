/-
  The document's channel: contract of Send. Conditions: at most 64 values, 256 waiters.
-/
import Derived.Test.YtidnkienkdlmkaaRxA
import Derived.Deep.DeepCutAuto
import Derived.Deep.CutBlock
import Derived.Deep.DrawnRows
namespace Go.Proofs.Ytidnkienkdlmkaa
open Go.RowKit Go.Sh
attribute [local go_sem ↓] Go.wp_at_zero Go.wp_at_succ

def RCOutPost (B : Nat) (w0 : World) (b : Nat) (F : List (Nat × Obj)) (r : CR) (e : Ending) (w' : World) : Prop :=
  ∃ wk Lk L', e = .returned (.tuple #[outV r.done r.v.t r.v.n r.fault wk, .int .i64 r.err]) ∧ Sl 38 4 W4 wk r.wakes Lk ∧ Rcx b r.st L' ∧ Own B w0 w' (L' ++ (Lk ++ F))

theorem rcout_mk {B : Nat} {w0 : World} {b : Nat} {F L' Lk : List (Nat × Obj)} {r r' : CR} {e : Ending} {w' : World} (wk : Value) (HR : Hid (r = r')) (he : e = .returned (.tuple #[outV r'.done r'.v.t r'.v.n r'.fault wk, .int .i64 r'.err]))
    (hk : Sl 38 4 W4 wk r'.wakes Lk) (hM : Rcx b r'.st L') (hO : Own B w0 w' (L' ++ (Lk ++ F))) : RCOutPost B w0 b F r e w' := by
  rw [HR.out]
  exact ⟨wk, Lk, L', he, hk, hM, hO⟩

theorem badC_one {s : CS} {who : Int} (h : mayC s who = 1) : badC s who = true := by simp [badC, h]
theorem badC_zero {s : CS} {who : Int} (h : mayC s who = 0) : badC s who = false := by simp [badC, h]
theorem rc5 {w : World} {b : Nat} {room : Int} {v1 v2 v3 : Value} {sh : Bool} (h : w.heap[b]? = some (rcobj room v1 v2 v3 sh)) : w.cell? ⟨b, 0, none⟩ = some (.int .i64 room) ∧ w.cell? ⟨b, 1, none⟩ = some v1 ∧ w.cell? ⟨b, 2, none⟩ = some v2 ∧ w.cell? ⟨b, 3, none⟩ = some v3 ∧ w.cell? ⟨b, 4, none⟩ = some (.bool sh) :=
  ⟨cell_of_get h 0, cell_of_get h 1, cell_of_get h 2, cell_of_get h 3, cell_of_get h 4⟩
abbrev box174 (x : W3) : Obj := Obj.cells #[.int .i64 x.who, .int .i64 x.t, .int .i64 x.n] 174 (0, 0)
abbrev wk38 (a t n f : Int) : Obj := Obj.cells #[.int .i64 a, .int .i64 t, .int .i64 n, .int .i64 f] 38 (0, 0)

section
variable {B : Nat} {w0 w : World} {c Z P : Nat × Obj} {L1 L2 L3 R : List (Nat × Obj)}
theorem own_c (h : Own B w0 w (Z :: P :: ((c :: (L1 ++ (L2 ++ L3))) ++ R))) : Own B w0 w (c :: Z :: P :: (L1 ++ (L2 ++ (L3 ++ R)))) := by
  have h1 : Own B w0 w (Z :: P :: (c :: (L1 ++ (L2 ++ (L3 ++ R))))) := by simpa [List.append_assoc] using h
  exact h1.shuf [[Z], [P], [c], L1 ++ (L2 ++ (L3 ++ R))] [2, 0, 1, 3] rfl rfl
theorem own_d (h : Own B w0 w (Z :: P :: (c :: (L1 ++ (L2 ++ (L3 ++ R)))))) : Own B w0 w ((c :: (L1 ++ (L2 ++ L3))) ++ R) := by simpa [List.append_assoc] using h.tail.tail
end

set_option maxRecDepth 100000 in
set_option maxHeartbeats 2000000 in
theorem rcsend_bad (B : Nat) (w0 : World) (b : Nat) (s : CS) (L F : List (Nat × Obj)) (who : Int) (x : V2) (w : World) (hX : Rcx b s L) (hO : Own B w0 w (L ++ F)) (h1 : mayC s who = 1) :
    Calls Try.prog 96 #[.pointer (some ⟨b, 0, none⟩), .int .i64 who, .agg #[.int .i64 x.t, .int .i64 x.n]] w (RCOutPost B w0 b F (sendC s who x)) := by
  have HR := Lib.hid (show sendC s who x = ⟨false, ⟨0, 0⟩, 0, [], 1, s⟩ by simp [sendC, h1])
  have HB := Lib.hid (badC_one h1)
  have hOF := (hO.allocAt (box30 x) (n := w.heap.size) rfl).allocAt outZ (n := w.heap.size + 1) (by simp)
  have hPZ : w.heap.size ≠ w.heap.size + 1 := by omega
  clear hO h1
  go_enter Try.func96, Try.ntmps96
  go_upto_region 1 with fail
  obtain ⟨P, hPe⟩ : ∃ P, w.heap.size = P := ⟨_, rfl⟩
  obtain ⟨Z, hZe⟩ : ∃ Z, P + 1 = Z := ⟨_, rfl⟩
  rw [hPe, hZe] at hOF hPZ
  rw [hPe, hZe]
  generalize (w.alloc (.cells #[.int .i64 x.t, .int .i64 x.n] 30)).alloc (.cells #[.bool false, .int .i64 0, .int .i64 0, .int .i64 0, .slice none 0 0] 33) = W at hOF ⊢
  clear hPe hZe
  have HG := Lib.hid (fun p hp => hOF.get p (List.mem_cons_of_mem _ (List.mem_cons_of_mem _ (List.mem_append_left _ hp))) : ∀ p ∈ L, W.heap[p.1]? = some p.2)
  have HX := Lib.hid hX
  obtain ⟨v1, v2, v3, L1, L2, L3, hC, rfl⟩ := hX
  obtain ⟨z0, z1, z2, z3, z4⟩ := z5 hOF.head
  have zf := free_of_get hOF.head
  have zl := lt_of_get hOF.head
  have hO1 := own_c hOF
  obtain ⟨c0, c1, c2, c3, c4⟩ := rc5 hO1.head
  have cf := free_of_get hO1.head
  have cl := lt_of_get hO1.head
  have hbx := hOF.tail.head
  have p0 : W.cell? ⟨P, 0, none⟩ = some (.int .i64 x.t) := cell_of_get hbx 0
  have p1 : W.cell? ⟨P, 1, none⟩ = some (.int .i64 x.n) := cell_of_get hbx 1
  have pl := lt_of_get hbx
  have hbZ : b ≠ Z := fun e => hO1.notMem (by simp [e])
  have hZb : Z ≠ b := fun e => hbZ e.symm
  have hbP : b ≠ P := fun e => hO1.notMem (by simp [e])
  have HC := Lib.hid hC
  have HO1 := Lib.hid hO1
  clear hbx hC hO1 hOF
  have hO8 := out5 (HO1.out.shuf [[_], [_], _] [1, 0, 2] rfl rfl) (.bool false) (.int .i64 0) (.int .i64 0) (.int .i64 0) (.slice none 0 0)
  have HR8 := Lib.hid (z5 hO8.head)
  have HO8 := Lib.hid (own_d (L1 := L1) (L2 := L2) (L3 := L3) (R := [] ++ F) (hO8.shuf [[_], [_], [_], _] [0, 2, 1, 3] rfl rfl))
  clear hO8
  go_wp2_with (go_at_call 116; refine (bad116 b s _ who _ HX.out HG.out).mono ?_; rintro e w' ⟨rfl, rfl⟩; rw [HB.out])
  obtain ⟨r0, r1, r2, r3, r4⟩ := HR8.out
  refine bodyPost_ret (v := .tuple #[outV false 0 0 0 (.slice none 0 0), .int .i64 1]) (by simp [results, Try.results96, go_sem, r0, r1, r2, r3, r4]) rfl ?_
  exact rcout_mk (Lk := []) _ HR rfl Sl.nil HX.out HO8.out

set_option maxRecDepth 100000 in
set_option maxHeartbeats 2000000 in
theorem rcsend_shut (B : Nat) (w0 : World) (b : Nat) (s : CS) (L F : List (Nat × Obj)) (who : Int) (x : V2) (w : World) (hX : Rcx b s L) (hO : Own B w0 w (L ++ F)) (h1 : mayC s who = 0) (h2 : s.shut = true) :
    Calls Try.prog 96 #[.pointer (some ⟨b, 0, none⟩), .int .i64 who, .agg #[.int .i64 x.t, .int .i64 x.n]] w (RCOutPost B w0 b F (sendC s who x)) := by
  have HR := Lib.hid (show sendC s who x = ⟨false, ⟨0, 0⟩, 11, [], 0, s⟩ by simp [sendC, h1, h2])
  have HB := Lib.hid (badC_zero h1)
  have hOF := (hO.allocAt (box30 x) (n := w.heap.size) rfl).allocAt outZ (n := w.heap.size + 1) (by simp)
  have hPZ : w.heap.size ≠ w.heap.size + 1 := by omega
  clear hO h1
  go_enter Try.func96, Try.ntmps96
  go_upto_region 1 with fail
  obtain ⟨P, hPe⟩ : ∃ P, w.heap.size = P := ⟨_, rfl⟩
  obtain ⟨Z, hZe⟩ : ∃ Z, P + 1 = Z := ⟨_, rfl⟩
  rw [hPe, hZe] at hOF hPZ
  rw [hPe, hZe]
  generalize (w.alloc (.cells #[.int .i64 x.t, .int .i64 x.n] 30)).alloc (.cells #[.bool false, .int .i64 0, .int .i64 0, .int .i64 0, .slice none 0 0] 33) = W at hOF ⊢
  clear hPe hZe
  have HG := Lib.hid (fun p hp => hOF.get p (List.mem_cons_of_mem _ (List.mem_cons_of_mem _ (List.mem_append_left _ hp))) : ∀ p ∈ L, W.heap[p.1]? = some p.2)
  have HX := Lib.hid hX
  obtain ⟨v1, v2, v3, L1, L2, L3, hC, rfl⟩ := hX
  obtain ⟨z0, z1, z2, z3, z4⟩ := z5 hOF.head
  have zf := free_of_get hOF.head
  have zl := lt_of_get hOF.head
  have hO1 := own_c hOF
  obtain ⟨c0, c1, c2, c3, c4⟩ := rc5 hO1.head
  have cf := free_of_get hO1.head
  have cl := lt_of_get hO1.head
  have hbx := hOF.tail.head
  have p0 : W.cell? ⟨P, 0, none⟩ = some (.int .i64 x.t) := cell_of_get hbx 0
  have p1 : W.cell? ⟨P, 1, none⟩ = some (.int .i64 x.n) := cell_of_get hbx 1
  have pl := lt_of_get hbx
  have hbZ : b ≠ Z := fun e => hO1.notMem (by simp [e])
  have hZb : Z ≠ b := fun e => hbZ e.symm
  have hbP : b ≠ P := fun e => hO1.notMem (by simp [e])
  have HC := Lib.hid hC
  have HO1 := Lib.hid hO1
  clear hbx hC hO1 hOF
  rw [h2] at c4
  clear h2
  have hO8 := out5 (HO1.out.shuf [[_], [_], _] [1, 0, 2] rfl rfl) (.bool false) (.int .i64 0) (.int .i64 0) (.int .i64 11) (.slice none 0 0)
  have HR8 := Lib.hid (z5 hO8.head)
  have HO8 := Lib.hid (own_d (L1 := L1) (L2 := L2) (L3 := L3) (R := [] ++ F) (hO8.shuf [[_], [_], [_], _] [0, 2, 1, 3] rfl rfl))
  clear hO8
  go_wp2_with (go_at_call 116; refine (bad116 b s _ who _ HX.out HG.out).mono ?_; rintro e w' ⟨rfl, rfl⟩; rw [HB.out])
  obtain ⟨r0, r1, r2, r3, r4⟩ := HR8.out
  refine bodyPost_ret (v := .tuple #[outV false 0 0 11 (.slice none 0 0), .int .i64 0]) (by simp [results, Try.results96, go_sem, r0, r1, r2, r3, r4]) rfl ?_
  exact rcout_mk (Lk := []) _ HR rfl Sl.nil HX.out HO8.out

set_option maxRecDepth 100000 in
set_option maxHeartbeats 2000000 in
theorem rcsend_rcv (B : Nat) (w0 : World) (b : Nat) (s : CS) (L F : List (Nat × Obj)) (who : Int) (x : V2) (w : World) (hX : Rcx b s L) (hO : Own B w0 w (L ++ F)) (h1 : mayC s who = 0) (h2 : s.shut = false) (y : W3) (r : List W3) (h3 : s.rcv = y :: r) :
    Calls Try.prog 96 #[.pointer (some ⟨b, 0, none⟩), .int .i64 who, .agg #[.int .i64 x.t, .int .i64 x.n]] w (RCOutPost B w0 b F (sendC s who x)) := by
  have HR := Lib.hid (show sendC s who x = ⟨true, ⟨0, 0⟩, 0, [⟨y.who, x.t, x.n, 0⟩], 0, ⟨s.room, s.vals, s.snd, r, s.shut⟩⟩ by simp [sendC, h1, h2, h3])
  have HB := Lib.hid (badC_zero h1)
  have hOF := (hO.allocAt (box30 x) (n := w.heap.size) rfl).allocAt outZ (n := w.heap.size + 1) (by simp)
  have hPZ : w.heap.size ≠ w.heap.size + 1 := by omega
  clear hO h1
  go_enter Try.func96, Try.ntmps96
  go_upto_region 1 with fail
  obtain ⟨P, hPe⟩ : ∃ P, w.heap.size = P := ⟨_, rfl⟩
  obtain ⟨Z, hZe⟩ : ∃ Z, P + 1 = Z := ⟨_, rfl⟩
  rw [hPe, hZe] at hOF hPZ
  rw [hPe, hZe]
  generalize (w.alloc (.cells #[.int .i64 x.t, .int .i64 x.n] 30)).alloc (.cells #[.bool false, .int .i64 0, .int .i64 0, .int .i64 0, .slice none 0 0] 33) = W at hOF ⊢
  clear hPe hZe
  have HG := Lib.hid (fun p hp => hOF.get p (List.mem_cons_of_mem _ (List.mem_cons_of_mem _ (List.mem_append_left _ hp))) : ∀ p ∈ L, W.heap[p.1]? = some p.2)
  have HX := Lib.hid hX
  obtain ⟨v1, v2, v3, L1, L2, L3, hC, rfl⟩ := hX
  obtain ⟨z0, z1, z2, z3, z4⟩ := z5 hOF.head
  have zf := free_of_get hOF.head
  have zl := lt_of_get hOF.head
  have hO1 := own_c hOF
  obtain ⟨c0, c1, c2, c3, c4⟩ := rc5 hO1.head
  have cf := free_of_get hO1.head
  have cl := lt_of_get hO1.head
  have hbx := hOF.tail.head
  have p0 : W.cell? ⟨P, 0, none⟩ = some (.int .i64 x.t) := cell_of_get hbx 0
  have p1 : W.cell? ⟨P, 1, none⟩ = some (.int .i64 x.n) := cell_of_get hbx 1
  have pl := lt_of_get hbx
  have hbZ : b ≠ Z := fun e => hO1.notMem (by simp [e])
  have hZb : Z ≠ b := fun e => hbZ e.symm
  have hbP : b ≠ P := fun e => hO1.notMem (by simp [e])
  have HC := Lib.hid hC
  have HO1 := Lib.hid hO1
  clear hbx hC hO1 hOF
  rw [h2] at c4
  clear h2
  have hs3 := HC.out.s3
  rw [h3] at hs3
  have hrl : r.length ≤ 256 := by have := HC.out.l3; rw [h3] at this; simp at this; omega
  clear h3
  rcases hs3 with ⟨_, h, _⟩ | ⟨g, off, cap, cur, rfl, rfl, hcap, hcm, hsz, hcur⟩
  · cases h
  · have hs : Sl 174 3 C3 (.slice (some ⟨g, off, none⟩) (y :: r : List W3).length cap) (y :: r) [(g, Obj.cells cur 174 (0, 0))] := .inr ⟨g, off, cap, cur, rfl, rfl, hcap, hcm, hsz, hcur⟩
    obtain ⟨ao', cap', he, hr⟩ := rd_c3 (Sl_rd (w := W) hs (fun p hp => HO1.out.get p (by simp at hp; subst hp; simp)))
    simp only [Value.slice.injEq, true_and] at he
    obtain ⟨rfl, rfl⟩ := he
    obtain ⟨g', off', he, hgl, d0, d1, d2⟩ := hr 0 (by simp)
    simp only [Option.some.injEq, Addr.mk.injEq, and_true] at he
    obtain ⟨rfl, rfl⟩ := he
    simp only [Nat.zero_mul, Nat.add_zero, List.getElem_cons_zero] at d0 d1 d2
    simp only [List.length_cons] at c3
    obtain ⟨off', hoff, hS'⟩ := hs.dropIf C3_len 1 (by simp) (cap = 1) id
    have hcase : (cap = 1 ∧ off' = off) ∨ (¬ cap = 1 ∧ off' = off + 3) := by
      by_cases hc : cap = 1
      · rw [if_pos hc] at hoff; simp at hoff; exact .inl ⟨hc, hoff.symm⟩
      · rw [if_neg hc] at hoff; simp at hoff; exact .inr ⟨hc, hoff.symm⟩
    have hcap' : r.length + 1 ≤ cap := hcap
    have hge1 : (1 : Int) ≤ (r.length : Int) + 1 := by omega
    have hgt1 : (0 : Int) < (r.length : Int) + 1 := by omega
    have HCM := Lib.hid hcm
    have hS2 : Sl 174 3 C3 (.slice (some ⟨g, off', none⟩) r.length (cap - 1)) r [(g, Obj.cells cur 174 (0, 0))] := by simpa using hS'
    clear hs hr hoff hcm hsz hcur hcap hS'
    rcases hcase with ⟨rfl, rfl⟩ | ⟨hc, rfl⟩
    · have hr0 : r.length = 0 := by omega
      rw [hr0] at hS2
      have HS2 : Hid (Sl 174 3 C3 (.slice (some ⟨g, off', none⟩) 0 0) r [(g, Obj.cells cur 174 (0, 0))]) := Lib.hid hS2
      clear hS2 hr0
      have hO8 := ((out5 ((HO1.out.setTo 3 (.slice (some ⟨g, off', none⟩) 0 0) rfl).shuf [[_], [_], _] [1, 0, 2] rfl rfl) (.bool true) (.int .i64 0) (.int .i64 0) (.int .i64 0) (.slice (some ⟨W.heap.size + 1, 0, none⟩) 1 1)).junk (box174 y)).allocAt (wk38 y.who x.t x.n 0) (n := W.heap.size + 1) (by simp)
      have HR8 := Lib.hid (z5 hO8.tail.head)
      have HO8 := Lib.hid (own_d (L1 := L1) (L2 := L2) (R := [(W.heap.size + 1, wk38 y.who x.t x.n 0)] ++ F) (hO8.shuf [[_], [_], [_], [_], L1, L2, [_], F] [1, 3, 2, 4, 5, 6, 0, 7] rfl rfl))
      clear hO8
      go_wp2_with (go_at_call 116; refine (bad116 b s _ who _ HX.out HG.out).mono ?_; rintro e w' ⟨rfl, rfl⟩; rw [HB.out])
      obtain ⟨r0, r1, r2, r3, r4⟩ := HR8.out
      refine bodyPost_ret (v := .tuple #[outV true 0 0 0 (.slice (some ⟨W.heap.size + 1, 0, none⟩) 1 1), .int .i64 0]) (by simp [results, Try.results96, go_sem, r0, r1, r2, r3, r4]) rfl ?_
      exact rcout_mk (Lk := [(W.heap.size + 1, wk38 y.who x.t x.n 0)]) _ HR rfl (slK (W.heap.size + 1) ⟨y.who, x.t, x.n, 0⟩) ⟨v1, v2, _, L1, L2, _, ⟨HC.out.s1, HC.out.s2, HS2.out, HC.out.l1, HC.out.l2, hrl, HC.out.r0, HC.out.r1⟩, rfl⟩ HO8.out
    · have HS2 := Lib.hid hS2
      clear hS2
      have hO8 := ((out5 ((HO1.out.setTo 3 (.slice (some ⟨g, off + 3, none⟩) r.length (cap - 1)) rfl).shuf [[_], [_], _] [1, 0, 2] rfl rfl) (.bool true) (.int .i64 0) (.int .i64 0) (.int .i64 0) (.slice (some ⟨W.heap.size + 1, 0, none⟩) 1 1)).junk (box174 y)).allocAt (wk38 y.who x.t x.n 0) (n := W.heap.size + 1) (by simp)
      have HR8 := Lib.hid (z5 hO8.tail.head)
      have HO8 := Lib.hid (own_d (L1 := L1) (L2 := L2) (R := [(W.heap.size + 1, wk38 y.who x.t x.n 0)] ++ F) (hO8.shuf [[_], [_], [_], [_], L1, L2, [_], F] [1, 3, 2, 4, 5, 6, 0, 7] rfl rfl))
      clear hO8
      go_wp2_with (go_at_call 116; refine (bad116 b s _ who _ HX.out HG.out).mono ?_; rintro e w' ⟨rfl, rfl⟩; rw [HB.out])
      obtain ⟨r0, r1, r2, r3, r4⟩ := HR8.out
      refine bodyPost_ret (v := .tuple #[outV true 0 0 0 (.slice (some ⟨W.heap.size + 1, 0, none⟩) 1 1), .int .i64 0]) (by simp [results, Try.results96, go_sem, r0, r1, r2, r3, r4]) rfl ?_
      exact rcout_mk (Lk := [(W.heap.size + 1, wk38 y.who x.t x.n 0)]) _ HR rfl (slK (W.heap.size + 1) ⟨y.who, x.t, x.n, 0⟩) ⟨v1, v2, _, L1, L2, _, ⟨HC.out.s1, HC.out.s2, HS2.out, HC.out.l1, HC.out.l2, hrl, HC.out.r0, HC.out.r1⟩, rfl⟩ HO8.out

set_option maxRecDepth 100000 in
set_option maxHeartbeats 2000000 in
theorem rcsend_full (B : Nat) (w0 : World) (b : Nat) (s : CS) (L F : List (Nat × Obj)) (who : Int) (x : V2) (w : World) (hX : Rcx b s L) (hO : Own B w0 w (L ++ F)) (h1 : mayC s who = 0) (h2 : s.shut = false) (h3 : s.rcv = []) (h4 : ¬ (s.vals.length : Int) < s.room) (h5 : 256 ≤ s.snd.length) :
    Calls Try.prog 96 #[.pointer (some ⟨b, 0, none⟩), .int .i64 who, .agg #[.int .i64 x.t, .int .i64 x.n]] w (RCOutPost B w0 b F (sendC s who x)) := by
  have HR := Lib.hid (show sendC s who x = ⟨false, ⟨0, 0⟩, 0, [], 7, s⟩ by simp [sendC, h1, h2, h3, h4, h5])
  have HB := Lib.hid (badC_zero h1)
  have hOF := (hO.allocAt (box30 x) (n := w.heap.size) rfl).allocAt outZ (n := w.heap.size + 1) (by simp)
  have hPZ : w.heap.size ≠ w.heap.size + 1 := by omega
  clear hO h1
  go_enter Try.func96, Try.ntmps96
  go_upto_region 1 with fail
  obtain ⟨P, hPe⟩ : ∃ P, w.heap.size = P := ⟨_, rfl⟩
  obtain ⟨Z, hZe⟩ : ∃ Z, P + 1 = Z := ⟨_, rfl⟩
  rw [hPe, hZe] at hOF hPZ
  rw [hPe, hZe]
  generalize (w.alloc (.cells #[.int .i64 x.t, .int .i64 x.n] 30)).alloc (.cells #[.bool false, .int .i64 0, .int .i64 0, .int .i64 0, .slice none 0 0] 33) = W at hOF ⊢
  clear hPe hZe
  have HG := Lib.hid (fun p hp => hOF.get p (List.mem_cons_of_mem _ (List.mem_cons_of_mem _ (List.mem_append_left _ hp))) : ∀ p ∈ L, W.heap[p.1]? = some p.2)
  have HX := Lib.hid hX
  obtain ⟨v1, v2, v3, L1, L2, L3, hC, rfl⟩ := hX
  obtain ⟨z0, z1, z2, z3, z4⟩ := z5 hOF.head
  have zf := free_of_get hOF.head
  have zl := lt_of_get hOF.head
  have hO1 := own_c hOF
  obtain ⟨c0, c1, c2, c3, c4⟩ := rc5 hO1.head
  have cf := free_of_get hO1.head
  have cl := lt_of_get hO1.head
  have hbx := hOF.tail.head
  have p0 : W.cell? ⟨P, 0, none⟩ = some (.int .i64 x.t) := cell_of_get hbx 0
  have p1 : W.cell? ⟨P, 1, none⟩ = some (.int .i64 x.n) := cell_of_get hbx 1
  have pl := lt_of_get hbx
  have hbZ : b ≠ Z := fun e => hO1.notMem (by simp [e])
  have hZb : Z ≠ b := fun e => hbZ e.symm
  have hbP : b ≠ P := fun e => hO1.notMem (by simp [e])
  have HC := Lib.hid hC
  have HO1 := Lib.hid hO1
  clear hbx hC hO1 hOF
  rw [h2] at c4
  clear h2
  have hv3 : ∃ a cp, v3 = .slice a 0 cp := by
    obtain ⟨a, cp, h, _, _⟩ := HC.out.s3.form
    rw [h3] at h
    exact ⟨a, cp, h⟩
  obtain ⟨a3, q3, rfl⟩ := hv3
  obtain ⟨a1, q1, rfl, _, _⟩ := HC.out.s1.form
  obtain ⟨a2, q2, rfl, _, _⟩ := HC.out.s2.form
  have hd : decide ((s.vals.length : Int) < s.room) = false := decide_eq_false h4
  have hlv := HC.out.l1
  have hls := HC.out.l2
  clear h3
  clear h4
  go_wp2_with (go_at_call 116; refine (bad116 b s _ who _ HX.out HG.out).mono ?_; rintro e w' ⟨rfl, rfl⟩; rw [HB.out])
  go_quiet (fail)
  have hO8 := out5 ((HO1.out.drewN nq).shuf [[_], [_], _] [1, 0, 2] rfl rfl) (.bool false) (.int .i64 0) (.int .i64 0) (.int .i64 0) (.slice none 0 0)
  have HR8 := Lib.hid (z5 hO8.head)
  have HO8 := Lib.hid (own_d (L1 := L1) (L2 := L2) (L3 := L3) (R := [] ++ F) (hO8.shuf [[_], [_], [_], _] [0, 2, 1, 3] rfl rfl))
  clear hO8
  go_wp2
  obtain ⟨r0, r1, r2, r3, r4⟩ := HR8.out
  refine bodyPost_ret (v := .tuple #[outV false 0 0 0 (.slice none 0 0), .int .i64 7]) (by simp [results, Try.results96, go_sem, r0, r1, r2, r3, r4]) rfl ?_
  exact rcout_mk (Lk := []) _ HR rfl Sl.nil HX.out HO8.out

set_option maxRecDepth 100000 in
set_option maxHeartbeats 2000000 in
theorem rcsend_room (B : Nat) (w0 : World) (b : Nat) (s : CS) (L F : List (Nat × Obj)) (who : Int) (x : V2) (w : World) (hX : Rcx b s L) (hO : Own B w0 w (L ++ F)) (h1 : mayC s who = 0) (h2 : s.shut = false) (h3 : s.rcv = []) (h4 : (s.vals.length : Int) < s.room) :
    Calls Try.prog 96 #[.pointer (some ⟨b, 0, none⟩), .int .i64 who, .agg #[.int .i64 x.t, .int .i64 x.n]] w (RCOutPost B w0 b F (sendC s who x)) := by
  have HR := Lib.hid (show sendC s who x = ⟨true, ⟨0, 0⟩, 0, [], 0, ⟨s.room, s.vals ++ [x], s.snd, s.rcv, s.shut⟩⟩ by simp [sendC, h1, h2, h3, h4])
  have HB := Lib.hid (badC_zero h1)
  have hOF := (hO.allocAt (box30 x) (n := w.heap.size) rfl).allocAt outZ (n := w.heap.size + 1) (by simp)
  have hPZ : w.heap.size ≠ w.heap.size + 1 := by omega
  clear hO h1
  go_enter Try.func96, Try.ntmps96
  go_upto_region 1 with fail
  obtain ⟨P, hPe⟩ : ∃ P, w.heap.size = P := ⟨_, rfl⟩
  obtain ⟨Z, hZe⟩ : ∃ Z, P + 1 = Z := ⟨_, rfl⟩
  rw [hPe, hZe] at hOF hPZ
  rw [hPe, hZe]
  generalize (w.alloc (.cells #[.int .i64 x.t, .int .i64 x.n] 30)).alloc (.cells #[.bool false, .int .i64 0, .int .i64 0, .int .i64 0, .slice none 0 0] 33) = W at hOF ⊢
  clear hPe hZe
  have HG := Lib.hid (fun p hp => hOF.get p (List.mem_cons_of_mem _ (List.mem_cons_of_mem _ (List.mem_append_left _ hp))) : ∀ p ∈ L, W.heap[p.1]? = some p.2)
  have HX := Lib.hid hX
  obtain ⟨v1, v2, v3, L1, L2, L3, hC, rfl⟩ := hX
  obtain ⟨z0, z1, z2, z3, z4⟩ := z5 hOF.head
  have zf := free_of_get hOF.head
  have zl := lt_of_get hOF.head
  have hO1 := own_c hOF
  obtain ⟨c0, c1, c2, c3, c4⟩ := rc5 hO1.head
  have cf := free_of_get hO1.head
  have cl := lt_of_get hO1.head
  have hbx := hOF.tail.head
  have p0 : W.cell? ⟨P, 0, none⟩ = some (.int .i64 x.t) := cell_of_get hbx 0
  have p1 : W.cell? ⟨P, 1, none⟩ = some (.int .i64 x.n) := cell_of_get hbx 1
  have pl := lt_of_get hbx
  have hbZ : b ≠ Z := fun e => hO1.notMem (by simp [e])
  have hZb : Z ≠ b := fun e => hbZ e.symm
  have hbP : b ≠ P := fun e => hO1.notMem (by simp [e])
  have HC := Lib.hid hC
  have HO1 := Lib.hid hO1
  clear hbx hC hO1 hOF
  rw [h2] at c4
  clear h2
  have hv3 : ∃ a cp, v3 = .slice a 0 cp := by
    obtain ⟨a, cp, h, _, _⟩ := HC.out.s3.form
    rw [h3] at h
    exact ⟨a, cp, h⟩
  obtain ⟨a3, q3, rfl⟩ := hv3
  obtain ⟨a1, q1, rfl, _, _⟩ := HC.out.s1.form
  obtain ⟨a2, q2, rfl, _, _⟩ := HC.out.s2.form
  have hd : decide ((s.vals.length : Int) < s.room) = true := decide_eq_true h4
  have hlv := HC.out.l1
  have hls := HC.out.l2
  clear h3
  obtain ⟨i0, hi, hz0, hz1, hz2⟩ := info_parts Try.info30
  have hlr : s.vals.length < 64 := by have := HC.out.r1; omega
  clear h4
  go_wp2_with (go_at_call 116; refine (bad116 b s _ who _ HX.out HG.out).mono ?_; rintro e w' ⟨rfl, rfl⟩; rw [HB.out])
  go_quiet (fail)
  have hO2 := HO1.out.drewN nq
  generalize W.drewN nq = W2 at hO2 ⊢
  clear z0 z1 z2 z3 z4 zf zl c0 c1 c2 c3 c4 cf cl p0 p1 pl
  obtain ⟨c0, c1, c2, c3, c4⟩ := rc5 hO2.head
  have cl := lt_of_get hO2.head
  have hbx := hO2.tail.tail.head
  have p0 : W2.cell? ⟨P, 0, none⟩ = some (.int .i64 x.t) := cell_of_get hbx 0
  have p1 : W2.cell? ⟨P, 1, none⟩ = some (.int .i64 x.n) := cell_of_get hbx 1
  have pl := lt_of_get hbx
  have cl1 : b < W2.heap.size + 1 := by omega
  have pl1 : P < W2.heap.size + 1 := by omega
  have HA := Lib.hid ((hO2.allocAt (box30 x) (n := W2.heap.size) rfl).shuf [[_], [_], [_], [_], L1, L2, L3, F] [0, 4, 1, 2, 3, 5, 6, 7] rfl rfl)
  have HS := Lib.hid HC.out.s1
  clear hbx hO2
  go_wp2
  go_region_law (refine step_append_sl rfl (.tmp 58) (.tmp 60) 98 rfl _ _ _ Try.underlying98 hi hz0 hz1 hz2 rfl C2_len C2_one rfl HS.out (by exact HA.out.tail.drew) ⟨W2.heap.size, 0, none⟩ [x] 1 1 rfl rfl (news_blk (C := #[.int .i64 x.t, .int .i64 x.n]) (t := 30) (fr := (0, 0)) (by exact HA.out.drew.head)) (by decide) (by unfold maxLen; omega) (by omega) ?_; intro g off cap' w1 L' hS1 hO3 hgl1 hge1; have hb1 : w1.heap[b]? = some (rcobj s.room (.slice a1 s.vals.length q1) (.slice a2 s.snd.length q2) (.slice a3 0 q3) s.shut) := hO3.get (b, rcobj s.room (.slice a1 s.vals.length q1) (.slice a2 s.snd.length q2) (.slice a3 0 q3) s.shut) (by simp [cat]); have k0 : w1.cell? ⟨b, 1, none⟩ = some (.slice a1 s.vals.length q1) := cell_of_get hb1 1; have k1 : w1.frozen? ⟨b, 1, none⟩ = false := free_of_get hb1 1; clear hb1)
  all_goals
    have hO4 := (hO3.shuf [L', [_], [_], [_], L2, L3, F] [1, 2, 3, 0, 4, 5, 6] rfl rfl).setTo 1 (.slice (some ⟨g, off, none⟩) (s.vals.length + 1) cap') rfl
    have hz := hO3.get (Z, outZ) (by simp [cat])
    obtain ⟨z0, z1, z2, z3, z4⟩ := z5 hz
    have zf := free_of_get hz
    have zl := lt_of_get hz
    have hO8 := out5 (hO4.shuf [[_], [_], _] [1, 0, 2] rfl rfl) (.bool true) (.int .i64 0) (.int .i64 0) (.int .i64 0) (.slice none 0 0)
    have HR8 := Lib.hid (z5 hO8.head)
    have HO8 := Lib.hid (own_d (L1 := L') (L2 := L2) (L3 := L3) (R := [] ++ F) (hO8.shuf [[_], [_], [_], _] [0, 2, 1, 3] rfl rfl))
    have HS1 := Lib.hid hS1
    clear hO8 hO3 hO4 hz hS1
    go_wp2
    obtain ⟨r0, r1, r2, r3, r4⟩ := HR8.out
    refine bodyPost_ret (v := .tuple #[outV true 0 0 0 (.slice none 0 0), .int .i64 0]) (by simp [results, Try.results96, go_sem, r0, r1, r2, r3, r4]) rfl ?_
    exact rcout_mk (Lk := []) _ HR rfl Sl.nil ⟨_, _, _, L', L2, L3, ⟨by simpa using HS1.out, HC.out.s2, HC.out.s3, by simp; omega, HC.out.l2, HC.out.l3, HC.out.r0, HC.out.r1⟩, rfl⟩ HO8.out

set_option maxRecDepth 100000 in
set_option maxHeartbeats 2000000 in
theorem rcsend_wait (B : Nat) (w0 : World) (b : Nat) (s : CS) (L F : List (Nat × Obj)) (who : Int) (x : V2) (w : World) (hX : Rcx b s L) (hO : Own B w0 w (L ++ F)) (h1 : mayC s who = 0) (h2 : s.shut = false) (h3 : s.rcv = []) (h4 : ¬ (s.vals.length : Int) < s.room) (h5 : ¬ 256 ≤ s.snd.length) :
    Calls Try.prog 96 #[.pointer (some ⟨b, 0, none⟩), .int .i64 who, .agg #[.int .i64 x.t, .int .i64 x.n]] w (RCOutPost B w0 b F (sendC s who x)) := by
  have HR := Lib.hid (show sendC s who x = ⟨false, ⟨0, 0⟩, 0, [], 0, ⟨s.room, s.vals, s.snd ++ [⟨who, x.t, x.n⟩], s.rcv, s.shut⟩⟩ by simp [sendC, h1, h2, h3, h4, h5])
  have HB := Lib.hid (badC_zero h1)
  have hOF := (hO.allocAt (box30 x) (n := w.heap.size) rfl).allocAt outZ (n := w.heap.size + 1) (by simp)
  have hPZ : w.heap.size ≠ w.heap.size + 1 := by omega
  clear hO h1
  go_enter Try.func96, Try.ntmps96
  go_upto_region 1 with fail
  obtain ⟨P, hPe⟩ : ∃ P, w.heap.size = P := ⟨_, rfl⟩
  obtain ⟨Z, hZe⟩ : ∃ Z, P + 1 = Z := ⟨_, rfl⟩
  rw [hPe, hZe] at hOF hPZ
  rw [hPe, hZe]
  generalize (w.alloc (.cells #[.int .i64 x.t, .int .i64 x.n] 30)).alloc (.cells #[.bool false, .int .i64 0, .int .i64 0, .int .i64 0, .slice none 0 0] 33) = W at hOF ⊢
  clear hPe hZe
  have HG := Lib.hid (fun p hp => hOF.get p (List.mem_cons_of_mem _ (List.mem_cons_of_mem _ (List.mem_append_left _ hp))) : ∀ p ∈ L, W.heap[p.1]? = some p.2)
  have HX := Lib.hid hX
  obtain ⟨v1, v2, v3, L1, L2, L3, hC, rfl⟩ := hX
  obtain ⟨z0, z1, z2, z3, z4⟩ := z5 hOF.head
  have zf := free_of_get hOF.head
  have zl := lt_of_get hOF.head
  have hO1 := own_c hOF
  obtain ⟨c0, c1, c2, c3, c4⟩ := rc5 hO1.head
  have cf := free_of_get hO1.head
  have cl := lt_of_get hO1.head
  have hbx := hOF.tail.head
  have p0 : W.cell? ⟨P, 0, none⟩ = some (.int .i64 x.t) := cell_of_get hbx 0
  have p1 : W.cell? ⟨P, 1, none⟩ = some (.int .i64 x.n) := cell_of_get hbx 1
  have pl := lt_of_get hbx
  have hbZ : b ≠ Z := fun e => hO1.notMem (by simp [e])
  have hZb : Z ≠ b := fun e => hbZ e.symm
  have hbP : b ≠ P := fun e => hO1.notMem (by simp [e])
  have HC := Lib.hid hC
  have HO1 := Lib.hid hO1
  clear hbx hC hO1 hOF
  rw [h2] at c4
  clear h2
  have hv3 : ∃ a cp, v3 = .slice a 0 cp := by
    obtain ⟨a, cp, h, _, _⟩ := HC.out.s3.form
    rw [h3] at h
    exact ⟨a, cp, h⟩
  obtain ⟨a3, q3, rfl⟩ := hv3
  obtain ⟨a1, q1, rfl, _, _⟩ := HC.out.s1.form
  obtain ⟨a2, q2, rfl, _, _⟩ := HC.out.s2.form
  have hd : decide ((s.vals.length : Int) < s.room) = false := decide_eq_false h4
  have hlv := HC.out.l1
  have hls := HC.out.l2
  clear h3
  obtain ⟨i0, hi, hz0, hz1, hz2⟩ := info_parts Try.info174
  have hsn : (s.snd.length : Int) < 256 := by omega
  clear h4
  go_wp2_with (go_at_call 116; refine (bad116 b s _ who _ HX.out HG.out).mono ?_; rintro e w' ⟨rfl, rfl⟩; rw [HB.out])
  go_quiet (fail)
  have hO2 := HO1.out.drewN nq
  generalize W.drewN nq = W2 at hO2 ⊢
  clear z0 z1 z2 z3 z4 zf zl c0 c1 c2 c3 c4 cf cl p0 p1 pl
  obtain ⟨c0, c1, c2, c3, c4⟩ := rc5 hO2.head
  have cl := lt_of_get hO2.head
  have hbx := hO2.tail.tail.head
  have p0 : W2.cell? ⟨P, 0, none⟩ = some (.int .i64 x.t) := cell_of_get hbx 0
  have p1 : W2.cell? ⟨P, 1, none⟩ = some (.int .i64 x.n) := cell_of_get hbx 1
  have pl := lt_of_get hbx
  have cl1 : b < W2.heap.size + 1 := by omega
  have pl1 : P < W2.heap.size + 1 := by omega
  have HA := Lib.hid ((hO2.allocAt (box174 ⟨who, x.t, x.n⟩) (n := W2.heap.size) rfl).shuf [[_], [_], [_], [_], L1, L2, L3, F] [0, 5, 1, 2, 3, 4, 6, 7] rfl rfl)
  have HS := Lib.hid HC.out.s2
  clear hbx hO2
  go_wp2
  go_region_law (refine step_append_sl rfl (.tmp 76) (.tmp 80) 154 rfl _ _ _ Try.underlying154 hi hz0 hz1 hz2 rfl C3_len C3_one rfl HS.out (by exact HA.out.tail.drew) ⟨W2.heap.size, 0, none⟩ [⟨who, x.t, x.n⟩] 1 1 rfl rfl (news_blk (C := #[.int .i64 who, .int .i64 x.t, .int .i64 x.n]) (t := 174) (fr := (0, 0)) (by exact HA.out.drew.head)) (by decide) (by unfold maxLen; omega) (by omega) ?_; intro g off cap' w1 L' hS1 hO3 hgl1 hge1; have hb1 : w1.heap[b]? = some (rcobj s.room (.slice a1 s.vals.length q1) (.slice a2 s.snd.length q2) (.slice a3 0 q3) s.shut) := hO3.get (b, rcobj s.room (.slice a1 s.vals.length q1) (.slice a2 s.snd.length q2) (.slice a3 0 q3) s.shut) (by simp [cat]); have k0 : w1.cell? ⟨b, 2, none⟩ = some (.slice a2 s.snd.length q2) := cell_of_get hb1 2; have k1 : w1.frozen? ⟨b, 2, none⟩ = false := free_of_get hb1 2; clear hb1)
  all_goals
    have hO4 := (hO3.shuf [L', [_], [_], [_], L1, L3, F] [1, 2, 3, 4, 0, 5, 6] rfl rfl).setTo 2 (.slice (some ⟨g, off, none⟩) (s.snd.length + 1) cap') rfl
    have hz := hO3.get (Z, outZ) (by simp [cat])
    obtain ⟨z0, z1, z2, z3, z4⟩ := z5 hz
    have zf := free_of_get hz
    have zl := lt_of_get hz
    have hO8 := out5 (hO4.shuf [[_], [_], _] [1, 0, 2] rfl rfl) (.bool false) (.int .i64 0) (.int .i64 0) (.int .i64 0) (.slice none 0 0)
    have HR8 := Lib.hid (z5 hO8.head)
    have HO8 := Lib.hid (own_d (L1 := L1) (L2 := L') (L3 := L3) (R := [] ++ F) (hO8.shuf [[_], [_], [_], _] [0, 2, 1, 3] rfl rfl))
    have HS1 := Lib.hid hS1
    clear hO8 hO3 hO4 hz hS1
    go_wp2
    obtain ⟨r0, r1, r2, r3, r4⟩ := HR8.out
    refine bodyPost_ret (v := .tuple #[outV false 0 0 0 (.slice none 0 0), .int .i64 0]) (by simp [results, Try.results96, go_sem, r0, r1, r2, r3, r4]) rfl ?_
    exact rcout_mk (Lk := []) _ HR rfl Sl.nil ⟨_, _, _, L1, L', L3, ⟨HC.out.s1, by simpa using HS1.out, HC.out.s3, HC.out.l1, by simp; omega, HC.out.l3, HC.out.r0, HC.out.r1⟩, rfl⟩ HO8.out

theorem rcsend (B : Nat) (w0 : World) (b : Nat) (s : CS) (L F : List (Nat × Obj)) (who : Int) (x : V2) (w : World) (hX : Rcx b s L) (hO : Own B w0 w (L ++ F)) :
    Calls Try.prog 96 #[.pointer (some ⟨b, 0, none⟩), .int .i64 who, .agg #[.int .i64 x.t, .int .i64 x.n]] w (RCOutPost B w0 b F (sendC s who x)) := by
  rcases mayC_cases s who with h1 | h1
  · cases h2 : s.shut with
    | true => exact rcsend_shut B w0 b s L F who x w hX hO h1 h2
    | false =>
      cases h3 : s.rcv with
      | cons y r => exact rcsend_rcv B w0 b s L F who x w hX hO h1 h2 y r h3
      | nil =>
        by_cases h4 : (s.vals.length : Int) < s.room
        · exact rcsend_room B w0 b s L F who x w hX hO h1 h2 h3 h4
        · by_cases h5 : 256 ≤ s.snd.length
          · exact rcsend_full B w0 b s L F who x w hX hO h1 h2 h3 h4 h5
          · exact rcsend_wait B w0 b s L F who x w hX hO h1 h2 h3 h4 h5
  · exact rcsend_bad B w0 b s L F who x w hX hO h1

end Go.Proofs.Ytidnkienkdlmkaa
