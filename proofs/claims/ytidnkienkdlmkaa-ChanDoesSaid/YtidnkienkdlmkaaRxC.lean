/-
  The document's channel: contract of Receive. Conditions: at most 64 values, 256 waiters.
-/
import Derived.Test.YtidnkienkdlmkaaRxB
import Derived.Test.YtidnkienkdlmkaaChRecv
import Derived.Carry
namespace Go.Proofs.Ytidnkienkdlmkaa
open Go.RowKit Go.Sh
attribute [local go_sem ↓] Go.wp_at_zero Go.wp_at_succ

abbrev xob (d : Bool) (t n : Int) (k : Value) : Obj := Obj.cells #[.bool d, .int .i64 t, .int .i64 n, .int .i64 0, k] 33 (0, 0)
/-- What the channel has between two pieces of Receive. -/
def RvCut (B : Nat) (w0 : World) (b X Z : Nat) (room : Int) (sh : Bool) (vs : List V2) (ss rs : List W3) (d : Bool) (t n : Int) (R : List (Nat × Obj)) (wx : World) : Prop :=
  ∃ v1 v2 v3 L1 L2 L3, Sl 30 2 C2 v1 vs L1 ∧ Sl 174 3 C3 v2 ss L2 ∧ Sl 174 3 C3 v3 rs L3 ∧ Own B w0 wx ((b, rcobj room v1 v2 v3 sh) :: (X, xob d t n (.slice none 0 0)) :: (Z, outZ) :: (L1 ++ (L2 ++ (L3 ++ R))))

theorem y3 {w : World} {V : Nat} {x : W3} (h : w.heap[V]? = some (box174 x)) : w.cell? ⟨V, 0, none⟩ = some (.int .i64 x.who) ∧ w.cell? ⟨V, 1, none⟩ = some (.int .i64 x.t) ∧ w.cell? ⟨V, 2, none⟩ = some (.int .i64 x.n) := ⟨cell_of_get h 0, cell_of_get h 1, cell_of_get h 2⟩

section
variable {B : Nat} {w0 w : World} {c Z X : Nat × Obj} {L1 L2 L3 R : List (Nat × Obj)}
theorem own_e (h : Own B w0 w (X :: Z :: ((c :: (L1 ++ (L2 ++ L3))) ++ R))) : Own B w0 w (c :: X :: Z :: (L1 ++ (L2 ++ (L3 ++ R)))) := by
  have h1 : Own B w0 w (X :: Z :: (c :: (L1 ++ (L2 ++ (L3 ++ R))))) := by simpa [List.append_assoc] using h
  exact h1.shuf [[X], [Z], [c], L1 ++ (L2 ++ (L3 ++ R))] [2, 0, 1, 3] rfl rfl
theorem own_f (h : Own B w0 w (c :: (L1 ++ (L2 ++ (L3 ++ R))))) : Own B w0 w ((c :: (L1 ++ (L2 ++ L3))) ++ R) := by simpa [List.append_assoc] using h
end

/-- A first element, and the rest behind it. -/
theorem sl_first {α : Type} {e : TypeId} {k : Nat} {enc : α → List Value} (hk : ∀ x, (enc x).length = k) {v : Value} {y : α} {r : List α} {L : List (Nat × Obj)} (h : Sl e k enc v (y :: r) L) :
    ∃ g off cap cur, v = .slice (some ⟨g, off, none⟩) (r.length + 1) cap ∧ L = [(g, Obj.cells cur e (0, 0))] ∧ r.length + 1 ≤ cap ∧ cap ≤ maxLen ∧
      ((cap = 1 ∧ r.length = 0 ∧ Sl e k enc (.slice (some ⟨g, off, none⟩) 0 0) r L) ∨ (¬ cap = 1 ∧ Sl e k enc (.slice (some ⟨g, off + k, none⟩) r.length (cap - 1)) r L)) := by
  rcases h with ⟨_, h, _⟩ | ⟨g, off, cap, cur, rfl, rfl, hcap, hcm, hsz, hcur⟩
  · cases h
  · have hs : Sl e k enc (.slice (some ⟨g, off, none⟩) (y :: r).length cap) (y :: r) [(g, Obj.cells cur e (0, 0))] := .inr ⟨g, off, cap, cur, rfl, rfl, hcap, hcm, hsz, hcur⟩
    refine ⟨g, off, cap, cur, rfl, rfl, hcap, hcm, ?_⟩
    obtain ⟨off', hoff, hS'⟩ := hs.dropIf hk 1 (by simp) (cap = 1) id
    have hS2 : Sl e k enc (.slice (some ⟨g, off', none⟩) r.length (cap - 1)) r [(g, Obj.cells cur e (0, 0))] := by simpa using hS'
    by_cases hc : cap = 1
    · rw [if_pos hc] at hoff
      simp at hoff
      subst hoff
      have hr : r.length = 0 := by simp at hcap; omega
      subst hc
      rw [hr] at hS2
      exact .inl ⟨rfl, hr, hS2⟩
    · rw [if_neg hc] at hoff
      simp at hoff
      subst hoff
      exact .inr ⟨hc, hS2⟩

set_option maxRecDepth 100000 in
set_option maxHeartbeats 4000000 in
theorem rcrecv_bad (B : Nat) (w0 : World) (b : Nat) (s : CS) (L F : List (Nat × Obj)) (who : Int) (w : World) (hX : Rcx b s L) (hO : Own B w0 w (L ++ F)) (h1 : mayC s who = 1) :
    Calls Try.prog 97 #[.pointer (some ⟨b, 0, none⟩), .int .i64 who] w (RCOutPost B w0 b F (recvC s who)) := by
  have HR := Lib.hid (show recvC s who = ⟨false, ⟨0, 0⟩, 0, [], 1, s⟩ by simp [recvC, h1])
  have HB := Lib.hid (badC_one h1)
  have hOZ := hO.allocAt outZ (n := w.heap.size) rfl
  have HG := Lib.hid (fun p hp => hOZ.get p (List.mem_cons_of_mem _ (List.mem_append_left _ hp)) : ∀ p ∈ L, _)
  have HX := Lib.hid hX
  have HO := Lib.hid hOZ.tail
  clear hO h1 hOZ
  go_enter Try.func97, Try.ntmps97
  go_wp2_with (go_at_call 116; refine (bad116 b s _ who _ HX.out HG.out).mono ?_; rintro e w' ⟨rfl, rfl⟩; rw [HB.out])
  refine bodyPost_ret (v := .tuple #[outV false 0 0 0 (.slice none 0 0), .int .i64 1]) (by simp [results, Try.results97, go_sem]) rfl ?_
  exact rcout_mk (Lk := []) _ HR rfl Sl.nil HX.out HO.out

set_option maxRecDepth 100000 in
set_option maxHeartbeats 4000000 in
theorem rcrecv_val (B : Nat) (w0 : World) (b : Nat) (s : CS) (L F : List (Nat × Obj)) (who : Int) (w : World) (hX : Rcx b s L) (hO : Own B w0 w (L ++ F)) (h1 : mayC s who = 0) (v : V2) (vs : List V2) (hv : s.vals = v :: vs) (hy : s.snd = []) :
    Calls Try.prog 97 #[.pointer (some ⟨b, 0, none⟩), .int .i64 who] w (RCOutPost B w0 b F (recvC s who)) := by
  have HR := Lib.hid (show recvC s who = ⟨true, v, 0, [], 0, ⟨s.room, vs, s.snd, s.rcv, s.shut⟩⟩ by simp [recvC, h1, hv, hy])
  have HB := Lib.hid (badC_zero h1)
  have hOZ := hO.allocAt outZ (n := w.heap.size) rfl
  have HG := Lib.hid (fun p hp => hOZ.get p (List.mem_cons_of_mem _ (List.mem_append_left _ hp)) : ∀ p ∈ L, _)
  have HX := Lib.hid hX
  have hOF := hOZ.allocAt outZ (n := w.heap.size + 1) (by simp)
  have hXZ : w.heap.size + 1 ≠ w.heap.size := by omega
  clear hO h1 hOZ
  go_enter Try.func97, Try.ntmps97
  go_upto_region 4 with (go_at_call 116; refine (bad116 b s _ who _ HX.out HG.out).mono ?_; rintro e w' ⟨rfl, rfl⟩; rw [HB.out])
  clear HG
  obtain ⟨Z, hZe⟩ : ∃ Z, w.heap.size = Z := ⟨_, rfl⟩
  obtain ⟨X, hXe⟩ : ∃ X, Z + 1 = X := ⟨_, rfl⟩
  rw [hZe, hXe] at hOF hXZ
  rw [hZe, hXe]
  generalize (w.alloc (.cells #[.bool false, .int .i64 0, .int .i64 0, .int .i64 0, .slice none 0 0] 33)).alloc (.cells #[.bool false, .int .i64 0, .int .i64 0, .int .i64 0, .slice none 0 0] 33) = W at hOF ⊢
  clear hZe hXe
  obtain ⟨v1, v2, v3, L1, L2, L3, hC, rfl⟩ := hX
  have hO1 := own_e hOF
  have hbX : b ≠ X := fun e => hO1.notMem (by simp [e])
  have hXb : X ≠ b := fun e => hbX e.symm
  have hbZ : b ≠ Z := fun e => hO1.notMem (by simp [e])
  have hZb : Z ≠ b := fun e => hbZ e.symm
  have hZX : Z ≠ X := fun e => hXZ e.symm
  have HC := Lib.hid hC
  clear hOF hC
  obtain ⟨c0, c1, c2, c3, c4⟩ := rc5 hO1.head
  have cf := free_of_get hO1.head
  have cl := lt_of_get hO1.head
  obtain ⟨x0, x1, x2, x3, x4⟩ := z5 hO1.tail.head
  have xf := free_of_get hO1.tail.head
  have xl := lt_of_get hO1.tail.head
  obtain ⟨z0, z1, z2, z3, z4⟩ := z5 hO1.tail.tail.head
  have zf := free_of_get hO1.tail.tail.head
  have zl := lt_of_get hO1.tail.tail.head
  have hs1 := HC.out.s1
  rw [hv] at hs1
  have hvl2 : vs.length + 1 ≤ 64 := by have := HC.out.l1; rw [hv] at this; simpa using this
  have hvl : vs.length ≤ 64 := by omega
  obtain ⟨g, off, cap, cur, rfl, rfl, hcap, hcm, hcase⟩ := sl_first C2_len hs1
  have hrd := Sl_rd (w := W) hs1 (fun p hp => hO1.get p (by simp at hp; subst hp; simp))
  rcases hrd with ⟨h, _⟩ | ⟨g', off', cap', he, hcell⟩
  · cases h
  simp only [Value.slice.injEq, Option.some.injEq, Addr.mk.injEq, and_true] at he
  obtain ⟨⟨rfl, rfl⟩, hle, rfl⟩ := he
  clear hle
  have d0 : W.cell? ⟨g, off, none⟩ = some (.int .i64 v.t) := hcell 0 _ rfl
  have d1 : W.cell? ⟨g, off + 1, none⟩ = some (.int .i64 v.n) := hcell 1 _ rfl
  have gl : g < W.heap.size := World.block_lt_of_cell? _ _ d0
  have hgX : X ≠ g := by
    intro e
    have h := hO1.tail.notMem
    simp [e] at h
  have hge1 : (1 : Int) ≤ (vs.length : Int) + 1 := by omega
  have hgt1 : (0 : Int) < (vs.length : Int) + 1 := by omega
  have HCM := Lib.hid hcm
  have HO1 := Lib.hid hO1
  have HCASE := Lib.hid hcase
  clear hv hs1 hcell hcm hO1 hcase
  go_upto_region 7 with fail
  go_cut [] (fun wx => RvCut B w0 b X Z s.room s.shut vs s.snd s.rcv true v.t v.n F wx)
  case first =>
    have hO2 := (((HO1.out.shuf [[_], [_], _] [1, 0, 2] rfl rfl).setTo 0 (.bool true) rfl).setTo 1 (.int .i64 v.t) rfl).setTo 2 (.int .i64 v.n) rfl
    have HO2 := Lib.hid (hO2.shuf [[_], [_], _] [1, 0, 2] rfl rfl)
    clear hO2
    rcases HCASE.out with ⟨rfl, hr0, hS⟩ | ⟨hc, hS⟩
    · have HS := Lib.hid hS
      clear hS
      go_wp2
      go_meet
      exact ⟨_, v2, v3, _, L2, L3, HS.out, HC.out.s2, HC.out.s3, HO2.out.setTo 1 (.slice (some ⟨g, off, none⟩) 0 0) rfl⟩
    · have HS := Lib.hid hS
      clear hS
      go_wp2
      go_meet
      exact ⟨_, v2, v3, _, L2, L3, HS.out, HC.out.s2, HC.out.s3, HO2.out.setTo 1 (.slice (some ⟨g, off + 2, none⟩) vs.length (cap - 1)) rfl⟩
  case rest =>
    clear c0 c1 c2 c3 c4 cf cl x0 x1 x2 x3 x4 xf xl z0 z1 z2 z3 z4 zf zl d0 d1 gl HO1 HCASE hgX hcap hge1 hgt1
    obtain ⟨u1, u2, u3, M1, M2, M3, hS1, hS2, hS3, hO1⟩ := hcut
    obtain ⟨a1, q1, rfl, _, _⟩ := hS1.form
    have hu2 : ∃ a cp, u2 = .slice a 0 cp := by
      obtain ⟨a, cp, h, _, _⟩ := hS2.form
      rw [hy] at h
      exact ⟨a, cp, h⟩
    obtain ⟨a2, q2, rfl⟩ := hu2
    have HS1 := Lib.hid hS1
    have HS2 := Lib.hid hS2
    have HS3 := Lib.hid hS3
    obtain ⟨c0, c1, c2, c3, c4⟩ := rc5 hO1.head
    have cf := free_of_get hO1.head
    have cl := lt_of_get hO1.head
    obtain ⟨x0, x1, x2, x3, x4⟩ := z5 hO1.tail.head
    have xf := free_of_get hO1.tail.head
    have xl := lt_of_get hO1.tail.head
    obtain ⟨z0, z1, z2, z3, z4⟩ := z5 hO1.tail.tail.head
    have zf := free_of_get hO1.tail.tail.head
    have zl := lt_of_get hO1.tail.tail.head
    have hO8 := out5 (hO1.shuf [[_], [_], [_], _] [2, 0, 1, 3] rfl rfl) (.bool true) (.int .i64 v.t) (.int .i64 v.n) (.int .i64 0) (.slice none 0 0)
    have HR8 := Lib.hid (z5 hO8.head)
    have HO8 := Lib.hid (own_f (L1 := M1) (L2 := M2) (L3 := M3) (R := [] ++ F) (hO8.shuf [[_], [_], [_], _] [0, 2, 1, 3] rfl rfl).tail.tail)
    clear hO8 hO1 hS1 hS2 hS3 hy
    go_wp2
    obtain ⟨r0, r1, r2, r3, r4⟩ := HR8.out
    refine bodyPost_ret (v := .tuple #[outV true v.t v.n 0 (.slice none 0 0), .int .i64 0]) (by simp [results, Try.results97, go_sem, r0, r1, r2, r3, r4]) rfl ?_
    exact rcout_mk (Lk := []) _ HR rfl Sl.nil ⟨_, _, _, M1, M2, M3, ⟨HS1.out, HS2.out, HS3.out, hvl, HC.out.l2, HC.out.l3, HC.out.r0, HC.out.r1⟩, rfl⟩ HO8.out

set_option maxRecDepth 100000 in
set_option maxHeartbeats 4000000 in
theorem rcrecv_snd (B : Nat) (w0 : World) (b : Nat) (s : CS) (L F : List (Nat × Obj)) (who : Int) (w : World) (hX : Rcx b s L) (hO : Own B w0 w (L ++ F)) (h1 : mayC s who = 0) (hv : s.vals = []) (y : W3) (r : List W3) (hy : s.snd = y :: r) :
    Calls Try.prog 97 #[.pointer (some ⟨b, 0, none⟩), .int .i64 who] w (RCOutPost B w0 b F (recvC s who)) := by
  have HR := Lib.hid (show recvC s who = ⟨true, ⟨y.t, y.n⟩, 0, [⟨y.who, 0, 0, 0⟩], 0, ⟨s.room, s.vals, r, s.rcv, s.shut⟩⟩ by simp [recvC, h1, hv, hy])
  have HB := Lib.hid (badC_zero h1)
  have hOZ := hO.allocAt outZ (n := w.heap.size) rfl
  have HG := Lib.hid (fun p hp => hOZ.get p (List.mem_cons_of_mem _ (List.mem_append_left _ hp)) : ∀ p ∈ L, _)
  have HX := Lib.hid hX
  have hOF := hOZ.allocAt outZ (n := w.heap.size + 1) (by simp)
  have hXZ : w.heap.size + 1 ≠ w.heap.size := by omega
  clear hO h1 hOZ
  go_enter Try.func97, Try.ntmps97
  go_upto_region 4 with (go_at_call 116; refine (bad116 b s _ who _ HX.out HG.out).mono ?_; rintro e w' ⟨rfl, rfl⟩; rw [HB.out])
  clear HG
  obtain ⟨Z, hZe⟩ : ∃ Z, w.heap.size = Z := ⟨_, rfl⟩
  obtain ⟨X, hXe⟩ : ∃ X, Z + 1 = X := ⟨_, rfl⟩
  rw [hZe, hXe] at hOF hXZ
  rw [hZe, hXe]
  generalize (w.alloc (.cells #[.bool false, .int .i64 0, .int .i64 0, .int .i64 0, .slice none 0 0] 33)).alloc (.cells #[.bool false, .int .i64 0, .int .i64 0, .int .i64 0, .slice none 0 0] 33) = W at hOF ⊢
  clear hZe hXe
  obtain ⟨v1, v2, v3, L1, L2, L3, hC, rfl⟩ := hX
  have hO1 := own_e hOF
  have hbX : b ≠ X := fun e => hO1.notMem (by simp [e])
  have hXb : X ≠ b := fun e => hbX e.symm
  have hbZ : b ≠ Z := fun e => hO1.notMem (by simp [e])
  have hZb : Z ≠ b := fun e => hbZ e.symm
  have hZX : Z ≠ X := fun e => hXZ e.symm
  have HC := Lib.hid hC
  clear hOF hC
  obtain ⟨c0, c1, c2, c3, c4⟩ := rc5 hO1.head
  have cf := free_of_get hO1.head
  have cl := lt_of_get hO1.head
  obtain ⟨x0, x1, x2, x3, x4⟩ := z5 hO1.tail.head
  have xf := free_of_get hO1.tail.head
  have xl := lt_of_get hO1.tail.head
  obtain ⟨z0, z1, z2, z3, z4⟩ := z5 hO1.tail.tail.head
  have zf := free_of_get hO1.tail.tail.head
  have zl := lt_of_get hO1.tail.tail.head
  have hu1 : ∃ a cp, v1 = .slice a 0 cp := by
    obtain ⟨a, cp, h, _, _⟩ := HC.out.s1.form
    rw [hv] at h
    exact ⟨a, cp, h⟩
  obtain ⟨a1, q1, rfl⟩ := hu1
  have hS2 := HC.out.s2
  rw [hy] at hS2
  have hrl : r.length ≤ 256 := by have := HC.out.l2; rw [hy] at this; simp at this; omega
  have HV := Lib.hid hv
  clear hv hy
  obtain ⟨g, off, cap, cur, rfl, rfl, hcap, hcm, hcase⟩ := sl_first C3_len hS2
  have hrd := Sl_rd (w := W) hS2 (fun p hp => hO1.get p (by simp at hp; subst hp; simp))
  rcases hrd with ⟨h, _⟩ | ⟨g', off', cap', he, hcell⟩
  · cases h
  simp only [Value.slice.injEq, Option.some.injEq, Addr.mk.injEq, and_true] at he
  obtain ⟨⟨rfl, rfl⟩, hle, rfl⟩ := he
  clear hle
  have d0 : W.cell? ⟨g, off, none⟩ = some (.int .i64 y.who) := hcell 0 _ rfl
  have d1 : W.cell? ⟨g, off + 1, none⟩ = some (.int .i64 y.t) := hcell 1 _ rfl
  have d2 : W.cell? ⟨g, off + 2, none⟩ = some (.int .i64 y.n) := hcell 2 _ rfl
  have gl : g < W.heap.size := World.block_lt_of_cell? _ _ d0
  have hge1 : (1 : Int) ≤ (r.length : Int) + 1 := by omega
  have hgt1 : (0 : Int) < (r.length : Int) + 1 := by omega
  have cl1 : b < W.heap.size + 1 := by omega
  have HCM := Lib.hid hcm
  have HO1 := Lib.hid hO1
  have HCASE := Lib.hid hcase
  clear hS2 hcell hcm hO1 hcase
  go_upto_region 10 with fail
  generalize hY : W.heap.size = Y
  have HY := Lib.hid hY
  clear hY
  go_cut [] (fun wx => RvCut B w0 b X Z s.room s.shut (s.vals) r s.rcv false 0 0 ((Y, box174 y) :: F) wx)
  case first =>
    rcases HCASE.out with ⟨rfl, hr0, hS⟩ | ⟨hc, hS⟩
    · have HS := Lib.hid hS
      clear hS
      go_wp2
      go_meet
      exact ⟨_, _, _, _, _, _, HC.out.s1, HS.out, HC.out.s3, ((HO1.out.setTo 2 (.slice (some ⟨g, off, none⟩) 0 0) rfl).allocAt (box174 y) (n := Y) (by simpa using HY.out)).shuf [[_], [_], [_], [_], L1, [_], L3, F] [1, 2, 3, 4, 5, 6, 0, 7] rfl rfl⟩
    · have HS := Lib.hid hS
      clear hS
      go_wp2
      go_meet
      exact ⟨_, _, _, _, _, _, HC.out.s1, HS.out, HC.out.s3, ((HO1.out.setTo 2 (.slice (some ⟨g, off + 3, none⟩) r.length (cap - 1)) rfl).allocAt (box174 y) (n := Y) (by simpa using HY.out)).shuf [[_], [_], [_], [_], L1, [_], L3, F] [1, 2, 3, 4, 5, 6, 0, 7] rfl rfl⟩
  case rest =>
    clear c0 c1 c2 c3 c4 cf cl x0 x1 x2 x3 x4 xf xl z0 z1 z2 z3 z4 zf zl d0 d1 d2 gl HO1 HCASE hcap hge1 hgt1 cl1 HY
    obtain ⟨u1, u2, u3, M1, M2, M3, hS1, hS2, hS3, hO1⟩ := hcut
    have HS1 := Lib.hid hS1
    have HS2 := Lib.hid hS2
    have HS3 := Lib.hid hS3
    obtain ⟨c0, c1, c2, c3, c4⟩ := rc5 hO1.head
    have cf := free_of_get hO1.head
    have cl := lt_of_get hO1.head
    obtain ⟨x0, x1, x2, x3, x4⟩ := z5 hO1.tail.head
    have xf := free_of_get hO1.tail.head
    have xl := lt_of_get hO1.tail.head
    obtain ⟨z0, z1, z2, z3, z4⟩ := z5 hO1.tail.tail.head
    have zf := free_of_get hO1.tail.tail.head
    have zl := lt_of_get hO1.tail.tail.head
    have hyb := hO1.get (Y, box174 y) (by simp)
    obtain ⟨y0, y1, y2⟩ := y3 hyb
    have yl := lt_of_get hyb
    have hYX : X ≠ Y := fun e => hO1.tail.notMem (by simp [e])
    have hO7 := (((hO1.shuf [[_], [_], [_], M1, M2, M3, [_], F] [1, 0, 2, 3, 4, 5, 6, 7] rfl rfl).setTo 4 (.slice (some ⟨wc.heap.size, 0, none⟩) 1 1) rfl).setTo 0 (.bool true) rfl).setTo 1 (.int .i64 y.t) rfl |>.setTo 2 (.int .i64 y.n) rfl
    have hO8 := (out5 (hO7.shuf [[_], [_], [_], _] [2, 0, 1, 3] rfl rfl) (.bool true) (.int .i64 y.t) (.int .i64 y.n) (.int .i64 0) (.slice (some ⟨wc.heap.size, 0, none⟩) 1 1)).allocAt (wk38 y.who 0 0 0) (n := wc.heap.size) (by simp)
    have HR8 := Lib.hid (z5 hO8.tail.head)
    have HO8 := Lib.hid (own_f (L1 := M1) (L2 := M2) (L3 := M3) (R := [(wc.heap.size, wk38 y.who 0 0 0)] ++ F) (hO8.shuf [[_], [_], [_], [_], M1, M2, M3, [_], F] [1, 2, 7, 3, 4, 5, 6, 0, 8] rfl rfl).tail.tail.tail)
    clear hO8 hO7 hO1 hS1 hS2 hS3 hyb
    go_wp2
    obtain ⟨r0, r1, r2, r3, r4⟩ := HR8.out
    refine bodyPost_ret (v := .tuple #[outV true y.t y.n 0 (.slice (some ⟨wc.heap.size, 0, none⟩) 1 1), .int .i64 0]) (by simp [results, Try.results97, go_sem, r0, r1, r2, r3, r4]) rfl ?_
    exact rcout_mk (Lk := [(wc.heap.size, wk38 y.who 0 0 0)]) _ HR rfl (slK wc.heap.size ⟨y.who, 0, 0, 0⟩) ⟨_, _, _, M1, M2, M3, ⟨HS1.out, HS2.out, HS3.out, HC.out.l1, hrl, HC.out.l3, HC.out.r0, HC.out.r1⟩, rfl⟩ HO8.out

set_option maxRecDepth 100000 in
set_option maxHeartbeats 4000000 in
theorem rcrecv_both (B : Nat) (w0 : World) (b : Nat) (s : CS) (L F : List (Nat × Obj)) (who : Int) (w : World) (hX : Rcx b s L) (hO : Own B w0 w (L ++ F)) (h1 : mayC s who = 0) (v : V2) (vs : List V2) (hv : s.vals = v :: vs) (y : W3) (r : List W3) (hy : s.snd = y :: r) :
    Calls Try.prog 97 #[.pointer (some ⟨b, 0, none⟩), .int .i64 who] w (RCOutPost B w0 b F (recvC s who)) := by
  have HR := Lib.hid (show recvC s who = ⟨true, v, 0, [⟨y.who, 0, 0, 0⟩], 0, ⟨s.room, vs ++ [⟨y.t, y.n⟩], r, s.rcv, s.shut⟩⟩ by simp [recvC, h1, hv, hy])
  have HB := Lib.hid (badC_zero h1)
  have hOZ := hO.allocAt outZ (n := w.heap.size) rfl
  have HG := Lib.hid (fun p hp => hOZ.get p (List.mem_cons_of_mem _ (List.mem_append_left _ hp)) : ∀ p ∈ L, _)
  have HX := Lib.hid hX
  have hOF := hOZ.allocAt outZ (n := w.heap.size + 1) (by simp)
  have hXZ : w.heap.size + 1 ≠ w.heap.size := by omega
  clear hO h1 hOZ
  go_enter Try.func97, Try.ntmps97
  go_upto_region 4 with (go_at_call 116; refine (bad116 b s _ who _ HX.out HG.out).mono ?_; rintro e w' ⟨rfl, rfl⟩; rw [HB.out])
  clear HG
  obtain ⟨Z, hZe⟩ : ∃ Z, w.heap.size = Z := ⟨_, rfl⟩
  obtain ⟨X, hXe⟩ : ∃ X, Z + 1 = X := ⟨_, rfl⟩
  rw [hZe, hXe] at hOF hXZ
  rw [hZe, hXe]
  generalize (w.alloc (.cells #[.bool false, .int .i64 0, .int .i64 0, .int .i64 0, .slice none 0 0] 33)).alloc (.cells #[.bool false, .int .i64 0, .int .i64 0, .int .i64 0, .slice none 0 0] 33) = W at hOF ⊢
  clear hZe hXe
  obtain ⟨v1, v2, v3, L1, L2, L3, hC, rfl⟩ := hX
  have hO1 := own_e hOF
  have hbX : b ≠ X := fun e => hO1.notMem (by simp [e])
  have hXb : X ≠ b := fun e => hbX e.symm
  have hbZ : b ≠ Z := fun e => hO1.notMem (by simp [e])
  have hZb : Z ≠ b := fun e => hbZ e.symm
  have hZX : Z ≠ X := fun e => hXZ e.symm
  have HC := Lib.hid hC
  clear hOF hC
  obtain ⟨c0, c1, c2, c3, c4⟩ := rc5 hO1.head
  have cf := free_of_get hO1.head
  have cl := lt_of_get hO1.head
  obtain ⟨x0, x1, x2, x3, x4⟩ := z5 hO1.tail.head
  have xf := free_of_get hO1.tail.head
  have xl := lt_of_get hO1.tail.head
  obtain ⟨z0, z1, z2, z3, z4⟩ := z5 hO1.tail.tail.head
  have zf := free_of_get hO1.tail.tail.head
  have zl := lt_of_get hO1.tail.tail.head
  have hs1 := HC.out.s1
  rw [hv] at hs1
  have hvl2 : vs.length + 1 ≤ 64 := by have := HC.out.l1; rw [hv] at this; simpa using this
  have hvl : vs.length ≤ 64 := by omega
  obtain ⟨g, off, cap, cur, rfl, rfl, hcap, hcm, hcase⟩ := sl_first C2_len hs1
  have hrd := Sl_rd (w := W) hs1 (fun p hp => hO1.get p (by simp at hp; subst hp; simp))
  rcases hrd with ⟨h, _⟩ | ⟨g', off', cap', he, hcell⟩
  · cases h
  simp only [Value.slice.injEq, Option.some.injEq, Addr.mk.injEq, and_true] at he
  obtain ⟨⟨rfl, rfl⟩, hle, rfl⟩ := he
  clear hle
  have d0 : W.cell? ⟨g, off, none⟩ = some (.int .i64 v.t) := hcell 0 _ rfl
  have d1 : W.cell? ⟨g, off + 1, none⟩ = some (.int .i64 v.n) := hcell 1 _ rfl
  have gl : g < W.heap.size := World.block_lt_of_cell? _ _ d0
  have hgX : X ≠ g := by
    intro e
    have h := hO1.tail.notMem
    simp [e] at h
  have hge1 : (1 : Int) ≤ (vs.length : Int) + 1 := by omega
  have hgt1 : (0 : Int) < (vs.length : Int) + 1 := by omega
  have HCM := Lib.hid hcm
  have HO1 := Lib.hid hO1
  have HCASE := Lib.hid hcase
  clear hv hs1 hcell hcm hO1 hcase
  go_upto_region 7 with fail
  go_cut [] (fun wx => RvCut B w0 b X Z s.room s.shut vs s.snd s.rcv true v.t v.n F wx)
  case first =>
    have hO2 := (((HO1.out.shuf [[_], [_], _] [1, 0, 2] rfl rfl).setTo 0 (.bool true) rfl).setTo 1 (.int .i64 v.t) rfl).setTo 2 (.int .i64 v.n) rfl
    have HO2 := Lib.hid (hO2.shuf [[_], [_], _] [1, 0, 2] rfl rfl)
    clear hO2
    rcases HCASE.out with ⟨rfl, hr0, hS⟩ | ⟨hc, hS⟩
    · have HS := Lib.hid hS
      clear hS
      go_wp2
      go_meet
      exact ⟨_, v2, v3, _, L2, L3, HS.out, HC.out.s2, HC.out.s3, HO2.out.setTo 1 (.slice (some ⟨g, off, none⟩) 0 0) rfl⟩
    · have HS := Lib.hid hS
      clear hS
      go_wp2
      go_meet
      exact ⟨_, v2, v3, _, L2, L3, HS.out, HC.out.s2, HC.out.s3, HO2.out.setTo 1 (.slice (some ⟨g, off + 2, none⟩) vs.length (cap - 1)) rfl⟩
  case rest =>
    clear c0 c1 c2 c3 c4 cf cl x0 x1 x2 x3 x4 xf xl z0 z1 z2 z3 z4 zf zl d0 d1 gl HO1 HCASE hgX hcap hge1 hgt1
    obtain ⟨u1, u2, u3, M1, M2, M3, hS1, hS2, hS3, hO1⟩ := hcut
    have hrl : r.length ≤ 256 := by have := HC.out.l2; rw [hy] at this; simp at this; omega
    rw [hy] at hS2
    have HS1 := Lib.hid hS1
    have HS3 := Lib.hid hS3
    obtain ⟨c0, c1, c2, c3, c4⟩ := rc5 hO1.head
    have cf := free_of_get hO1.head
    have cl := lt_of_get hO1.head
    obtain ⟨x0, x1, x2, x3, x4⟩ := z5 hO1.tail.head
    have xf := free_of_get hO1.tail.head
    have xl := lt_of_get hO1.tail.head
    obtain ⟨z0, z1, z2, z3, z4⟩ := z5 hO1.tail.tail.head
    have zf := free_of_get hO1.tail.tail.head
    have zl := lt_of_get hO1.tail.tail.head
    clear hy hS1 hS3
    obtain ⟨g, off, cap, cur, rfl, rfl, hcap, hcm, hcase⟩ := sl_first C3_len hS2
    have hrd := Sl_rd (w := wc) hS2 (fun p hp => hO1.get p (by simp at hp; subst hp; simp))
    rcases hrd with ⟨h, _⟩ | ⟨g', off', cap', he, hcell⟩
    · cases h
    simp only [Value.slice.injEq, Option.some.injEq, Addr.mk.injEq, and_true] at he
    obtain ⟨⟨rfl, rfl⟩, hle, rfl⟩ := he
    clear hle
    have d0 : wc.cell? ⟨g, off, none⟩ = some (.int .i64 y.who) := hcell 0 _ rfl
    have d1 : wc.cell? ⟨g, off + 1, none⟩ = some (.int .i64 y.t) := hcell 1 _ rfl
    have d2 : wc.cell? ⟨g, off + 2, none⟩ = some (.int .i64 y.n) := hcell 2 _ rfl
    have gl : g < wc.heap.size := World.block_lt_of_cell? _ _ d0
    have hge1 : (1 : Int) ≤ (r.length : Int) + 1 := by omega
    have hgt1 : (0 : Int) < (r.length : Int) + 1 := by omega
    have cl1 : b < wc.heap.size + 1 := by omega
    have HCM := Lib.hid hcm
    have HO1 := Lib.hid hO1
    have HCASE := Lib.hid hcase
    clear hS2 hcell hcm hO1 hcase
    go_upto_region 10 with fail
    generalize hY : wc.heap.size = Y
    have HY := Lib.hid hY
    clear hY
    go_cut [] (fun wx => RvCut B w0 b X Z s.room s.shut (vs) r s.rcv true v.t v.n ((Y, box174 y) :: F) wx)
    case first =>
      rcases HCASE.out with ⟨rfl, hr0, hS⟩ | ⟨hc, hS⟩
      · have HS := Lib.hid hS
        clear hS
        go_wp2
        go_meet
        exact ⟨_, _, _, _, _, _, HS1.out, HS.out, HS3.out, ((HO1.out.setTo 2 (.slice (some ⟨g, off, none⟩) 0 0) rfl).allocAt (box174 y) (n := Y) (by simpa using HY.out)).shuf [[_], [_], [_], [_], M1, [_], M3, F] [1, 2, 3, 4, 5, 6, 0, 7] rfl rfl⟩
      · have HS := Lib.hid hS
        clear hS
        go_wp2
        go_meet
        exact ⟨_, _, _, _, _, _, HS1.out, HS.out, HS3.out, ((HO1.out.setTo 2 (.slice (some ⟨g, off + 3, none⟩) r.length (cap - 1)) rfl).allocAt (box174 y) (n := Y) (by simpa using HY.out)).shuf [[_], [_], [_], [_], M1, [_], M3, F] [1, 2, 3, 4, 5, 6, 0, 7] rfl rfl⟩
    case rest =>
      clear c0 c1 c2 c3 c4 cf cl x0 x1 x2 x3 x4 xf xl z0 z1 z2 z3 z4 zf zl d0 d1 d2 gl HO1 HCASE hcap hge1 hgt1 cl1 HY HS1 HS3
      obtain ⟨u1, u2, u3, M1, M2, M3, hS1, hS2, hS3, hO1⟩ := hcut
      obtain ⟨i0, hi, hz0, hz1, hz2⟩ := info_parts Try.info30
      obtain ⟨a1, q1, rfl, hq1, _⟩ := hS1.form
      have HS1 := Lib.hid hS1
      have HS2 := Lib.hid hS2
      have HS3 := Lib.hid hS3
      obtain ⟨c0, c1, c2, c3, c4⟩ := rc5 hO1.head
      have cf := free_of_get hO1.head
      have cl := lt_of_get hO1.head
      obtain ⟨x0, x1, x2, x3, x4⟩ := z5 hO1.tail.head
      have xf := free_of_get hO1.tail.head
      have xl := lt_of_get hO1.tail.head
      obtain ⟨z0, z1, z2, z3, z4⟩ := z5 hO1.tail.tail.head
      have zf := free_of_get hO1.tail.tail.head
      have zl := lt_of_get hO1.tail.tail.head
      have hyb := hO1.get (Y, box174 y) (by simp)
      obtain ⟨y0, y1, y2⟩ := y3 hyb
      have yl := lt_of_get hyb
      have hYX : X ≠ Y := fun e => hO1.tail.notMem (by simp [e])
      have hO7 := (((hO1.shuf [[_], [_], [_], M1, M2, M3, [_], F] [1, 0, 2, 3, 4, 5, 6, 7] rfl rfl).setTo 4 (.slice (some ⟨wc.heap.size, 0, none⟩) 1 1) rfl).allocAt (wk38 y.who 0 0 0) (n := wc.heap.size) (by simp)).shuf [[_], [_], [_], [_], M1, M2, M3, [_], F] [2, 1, 3, 7, 0, 4, 5, 6, 8] rfl rfl
      have HO7 := Lib.hid hO7
      clear hO7 hO1 hS1 hS2 hS3 hyb
      go_upto_region 13 with fail
      obtain ⟨K, hK⟩ : ∃ K, wc.heap.size = K := ⟨_, rfl⟩
      rw [hK] at HO7 ⊢
      generalize ((wc.setCell ⟨X, 4, none⟩ (.slice (some ⟨K, 0, none⟩) 1 1)).alloc (.cells #[.int .i64 y.who, .int .i64 0, .int .i64 0, .int .i64 0] 38)) = W3 at HO7 ⊢
      clear hK c0 c1 c2 c3 c4 cf cl x0 x1 x2 x3 x4 xf xl z0 z1 z2 z3 z4 zf zl y0 y1 y2 yl
      obtain ⟨Q, hQ⟩ : ∃ Q, cat [[(b, rcobj s.room (.slice a1 vs.length q1) u2 u3 s.shut)], [(X, xob true v.t v.n (.slice (some ⟨K, 0, none⟩) 1 1))], [(Z, outZ)], [(Y, box174 y)], [(K, wk38 y.who 0 0 0)], M1, M2, M3, F] = Q := ⟨_, rfl⟩
      have HQ7 : Hid (Own B w0 W3 Q) := Lib.hid (by rw [← hQ]; exact HO7.out)
      have hmb : (b, rcobj s.room (.slice a1 vs.length q1) u2 u3 s.shut) ∈ Q := by rw [← hQ]; simp [cat]
      have hmy : (Y, box174 y) ∈ Q := by rw [← hQ]; simp [cat]
      have HM1 := Lib.hid (show ∀ p ∈ M1, p ∈ Q from fun p hp => by rw [← hQ]; simp [cat, hp])
      have HBK := Lib.hid (show ∀ w' L5, Own B w0 w' (L5 ++ Q) → Own B w0 w' (cat [[(b, rcobj s.room (.slice a1 vs.length q1) u2 u3 s.shut)], [(X, xob true v.t v.n (.slice (some ⟨K, 0, none⟩) 1 1))], [(Z, outZ)], L5, M2, M3, [(K, wk38 y.who 0 0 0)], F]) by
        intro w' L5 h
        rw [← hQ] at h
        have h1 := h.shuf [L5, [_], [_], [_], [_], [_], M1, M2, M3, F] [6, 4, 1, 2, 3, 0, 7, 8, 5, 9] rfl rfl
        exact (show Own B w0 w' (M1 ++ ((Y, box174 y) :: cat [[(b, rcobj s.room (.slice a1 vs.length q1) u2 u3 s.shut)], [(X, xob true v.t v.n (.slice (some ⟨K, 0, none⟩) 1 1))], [(Z, outZ)], L5, M2, M3, [(K, wk38 y.who 0 0 0)], F])) from h1).right.tail)
      have hcb := HQ7.out.get _ hmb
      have c1 : W3.cell? ⟨b, 1, none⟩ = some (.slice a1 vs.length q1) := cell_of_get hcb 1
      have cl := lt_of_get hcb
      have hyb := HQ7.out.get _ hmy
      obtain ⟨y0, y1, y2⟩ := y3 hyb
      have yl := lt_of_get hyb
      have cl1 : b < W3.heap.size + 1 := by omega
      have yl1 : Y < W3.heap.size + 1 := by omega
      have HMB := Lib.hid hmb
      have HMY := Lib.hid hmy
      have HA := Lib.hid (HQ7.out.allocAt (box30 ⟨y.t, y.n⟩) (n := W3.heap.size) rfl).drew
      have HD := Lib.hid HQ7.out.drew
      clear hcb hyb hmb hmy hQ HO7
      go_region_law (first
        | (refine step_append_sl rfl (.tmp 66) (.tmp 69) 98 rfl _ _ _ Try.underlying98 hi hz0 hz1 hz2 rfl C2_len C2_one rfl HSB.out (by exact hOB) ⟨W3.heap.size, 0, none⟩ [⟨y.t, y.n⟩] 1 1 rfl rfl (news_blk (C := #[.int .i64 y.t, .int .i64 y.n]) (t := 30) (fr := (0, 0)) (by exact hOB.get (W3.heap.size, box30 ⟨y.t, y.n⟩) (by simp))) (by decide) (by unfold maxLen; omega) (by omega) ?_; intro g off cap' w5 L5 hS5 hO5 _ _; have hO6 := hO5.sub (List.Sublist.append_left (List.sublist_cons_self _ _) L5); have hb5 := hO6.get _ (List.mem_append_right _ HMB.out); have k0 : w5.cell? ⟨b, 1, none⟩ = some (.slice a1 vs.length q1) := cell_of_get hb5 1; have k1 : w5.frozen? ⟨b, 1, none⟩ = false := free_of_get hb5 1; have kl := lt_of_get hb5; clear hb5 hO5)
        | (refine step_append_sl rfl (.tmp 66) (.tmp 69) 98 rfl _ _ _ Try.underlying98 hi hz0 hz1 hz2 rfl C2_len C2_one rfl HSA.out (by exact hOA.junk _) ⟨wA.heap.size, 0, none⟩ [⟨y.t, y.n⟩] 1 1 rfl rfl (news_blk (C := #[.int .i64 y.t, .int .i64 y.n]) (t := 30) (fr := (0, 0)) (by exact heap_alloc_new wA _)) (by decide) (by unfold maxLen; omega) (by omega) ?_; intro g off cap' w5 L5 hS5 hO6 _ _; have hb5 := hO6.get _ (List.mem_append_right _ HMB.out); have k0 : w5.cell? ⟨b, 1, none⟩ = some (.slice a1 vs.length q1) := cell_of_get hb5 1; have k1 : w5.frozen? ⟨b, 1, none⟩ = false := free_of_get hb5 1; have kl := lt_of_get hb5; clear hb5)
        | (refine step_append_all rfl (.const (.slice none 0 0)) (.tmp 65) 98 rfl _ _ _ Try.underlying98 hi hz0 hz1 hz2 rfl C2_len C2_one rfl (Sl.nil (e := 30) (k := 2) (enc := C2)) HD.out _ rfl vs M1 (by exact HS1.out) (by exact HM1.out) (by simp [maxLen]; omega) (by simp; omega) vs.length (by simp) ?_; intro aA capA wA LA hSA hOA _; have HSA : Hid (Sl 30 2 C2 (.slice aA vs.length capA) vs LA) := Lib.hid (by simpa using hSA); have hyA := hOA.get _ (List.mem_append_right _ HMY.out); obtain ⟨ya0, ya1, ya2⟩ := y3 hyA; have yla := lt_of_get hyA; have yla1 : Y < wA.heap.size + 1 := (by omega); have hbA := hOA.get _ (List.mem_append_right _ HMB.out); have bla := lt_of_get hbA; clear hSA hyA hbA)
        | (refine step_append_all rfl (.const (.slice none 0 0)) (.tmp 65) 98 rfl _ _ _ Try.underlying98 hi hz0 hz1 hz2 rfl C2_len C2_one rfl (Sl.nil (e := 30) (k := 2) (enc := C2)) HA.out _ rfl vs M1 (by exact HS1.out) (by exact fun p hp => List.mem_cons_of_mem _ (HM1.out p hp)) (by simp [maxLen]; omega) (by simp; omega) vs.length (by simp) ?_; intro aB capB wB LB hSB hOB _; have HSB : Hid (Sl 30 2 C2 (.slice aB vs.length capB) vs LB) := Lib.hid (by simpa using hSB); have hyA := hOB.get _ (List.mem_append_right _ (List.mem_cons_of_mem _ HMY.out)); obtain ⟨ya0, ya1, ya2⟩ := y3 hyA; have yla := lt_of_get hyA; clear hSB hyA))
      all_goals
        have hO7 := HBK.out w5 L5 hO6
        obtain ⟨x0, x1, x2, x3, x4⟩ := z5 hO7.tail.head
        have xl := lt_of_get hO7.tail.head
        obtain ⟨z0, z1, z2, z3, z4⟩ := z5 hO7.tail.tail.head
        have zf := free_of_get hO7.tail.tail.head
        have zl := lt_of_get hO7.tail.tail.head
        have hO8 := out5 ((hO7.setTo 1 (.slice (some ⟨g, off, none⟩) (vs.length + 1) cap') rfl).shuf [[_], [_], [_], _] [2, 0, 1, 3] rfl rfl) (.bool true) (.int .i64 v.t) (.int .i64 v.n) (.int .i64 0) (.slice (some ⟨K, 0, none⟩) 1 1)
        have HR8 := Lib.hid (z5 hO8.head)
        have HO8 := Lib.hid (own_f (L1 := L5) (L2 := M2) (L3 := M3) (R := [(K, wk38 y.who 0 0 0)] ++ F) (hO8.shuf [[_], [_], [_], _] [0, 2, 1, 3] rfl rfl).tail.tail)
        have HS5 := Lib.hid hS5
        clear hO8 hO7 hO6 hS5
        go_wp2
        obtain ⟨r0, r1, r2, r3, r4⟩ := HR8.out
        refine bodyPost_ret (v := .tuple #[outV true v.t v.n 0 (.slice (some ⟨K, 0, none⟩) 1 1), .int .i64 0]) (by simp [results, Try.results97, go_sem, r0, r1, r2, r3, r4]) rfl ?_
        exact rcout_mk (Lk := [(K, wk38 y.who 0 0 0)]) _ HR rfl (slK K ⟨y.who, 0, 0, 0⟩) ⟨_, _, _, L5, M2, M3, ⟨by simpa using HS5.out, HS2.out, HS3.out, by simp; omega, hrl, HC.out.l3, HC.out.r0, HC.out.r1⟩, rfl⟩ HO8.out

set_option maxRecDepth 100000 in
set_option maxHeartbeats 4000000 in
theorem rcrecv_shut (B : Nat) (w0 : World) (b : Nat) (s : CS) (L F : List (Nat × Obj)) (who : Int) (w : World) (hX : Rcx b s L) (hO : Own B w0 w (L ++ F)) (h1 : mayC s who = 0) (hv : s.vals = []) (hy : s.snd = []) (h2 : s.shut = true) :
    Calls Try.prog 97 #[.pointer (some ⟨b, 0, none⟩), .int .i64 who] w (RCOutPost B w0 b F (recvC s who)) := by
  have HR := Lib.hid (show recvC s who = ⟨false, ⟨0, 0⟩, 11, [], 0, s⟩ by simp [recvC, h1, hv, hy, h2])
  have HB := Lib.hid (badC_zero h1)
  have hOZ := hO.allocAt outZ (n := w.heap.size) rfl
  have HG := Lib.hid (fun p hp => hOZ.get p (List.mem_cons_of_mem _ (List.mem_append_left _ hp)) : ∀ p ∈ L, _)
  have HX := Lib.hid hX
  have hOF := hOZ.allocAt outZ (n := w.heap.size + 1) (by simp)
  have hXZ : w.heap.size + 1 ≠ w.heap.size := by omega
  clear hO h1 hOZ
  go_enter Try.func97, Try.ntmps97
  go_upto_region 4 with (go_at_call 116; refine (bad116 b s _ who _ HX.out HG.out).mono ?_; rintro e w' ⟨rfl, rfl⟩; rw [HB.out])
  clear HG
  obtain ⟨Z, hZe⟩ : ∃ Z, w.heap.size = Z := ⟨_, rfl⟩
  obtain ⟨X, hXe⟩ : ∃ X, Z + 1 = X := ⟨_, rfl⟩
  rw [hZe, hXe] at hOF hXZ
  rw [hZe, hXe]
  generalize (w.alloc (.cells #[.bool false, .int .i64 0, .int .i64 0, .int .i64 0, .slice none 0 0] 33)).alloc (.cells #[.bool false, .int .i64 0, .int .i64 0, .int .i64 0, .slice none 0 0] 33) = W at hOF ⊢
  clear hZe hXe
  obtain ⟨v1, v2, v3, L1, L2, L3, hC, rfl⟩ := hX
  have hO1 := own_e hOF
  have hbX : b ≠ X := fun e => hO1.notMem (by simp [e])
  have hXb : X ≠ b := fun e => hbX e.symm
  have hbZ : b ≠ Z := fun e => hO1.notMem (by simp [e])
  have hZb : Z ≠ b := fun e => hbZ e.symm
  have hZX : Z ≠ X := fun e => hXZ e.symm
  have HC := Lib.hid hC
  clear hOF hC
  obtain ⟨c0, c1, c2, c3, c4⟩ := rc5 hO1.head
  have cf := free_of_get hO1.head
  have cl := lt_of_get hO1.head
  obtain ⟨x0, x1, x2, x3, x4⟩ := z5 hO1.tail.head
  have xf := free_of_get hO1.tail.head
  have xl := lt_of_get hO1.tail.head
  obtain ⟨z0, z1, z2, z3, z4⟩ := z5 hO1.tail.tail.head
  have zf := free_of_get hO1.tail.tail.head
  have zl := lt_of_get hO1.tail.tail.head
  have hu1 : ∃ a cp, v1 = .slice a 0 cp := by
    obtain ⟨a, cp, h, _, _⟩ := HC.out.s1.form
    rw [hv] at h
    exact ⟨a, cp, h⟩
  have hu2 : ∃ a cp, v2 = .slice a 0 cp := by
    obtain ⟨a, cp, h, _, _⟩ := HC.out.s2.form
    rw [hy] at h
    exact ⟨a, cp, h⟩
  obtain ⟨a1, q1, rfl⟩ := hu1
  obtain ⟨a2, q2, rfl⟩ := hu2
  obtain ⟨a3, q3, rfl, _, _⟩ := HC.out.s3.form
  have hls := HC.out.l3
  rw [h2] at c4
  clear hv hy h2
  have hO8 := out5 (hO1.shuf [[_], [_], [_], _] [2, 0, 1, 3] rfl rfl) (.bool false) (.int .i64 0) (.int .i64 0) (.int .i64 11) (.slice none 0 0)
  have HR8 := Lib.hid (z5 hO8.head)
  have HO8 := Lib.hid (own_f (L1 := L1) (L2 := L2) (L3 := L3) (R := [] ++ F) (hO8.shuf [[_], [_], [_], _] [0, 2, 1, 3] rfl rfl).tail.tail)
  clear hO8 hO1
  go_wp2
  obtain ⟨r0, r1, r2, r3, r4⟩ := HR8.out
  refine bodyPost_ret (v := .tuple #[outV false 0 0 11 (.slice none 0 0), .int .i64 0]) (by simp [results, Try.results97, go_sem, r0, r1, r2, r3, r4]) rfl ?_
  exact rcout_mk (Lk := []) _ HR rfl Sl.nil HX.out HO8.out

set_option maxRecDepth 100000 in
set_option maxHeartbeats 4000000 in
theorem rcrecv_full (B : Nat) (w0 : World) (b : Nat) (s : CS) (L F : List (Nat × Obj)) (who : Int) (w : World) (hX : Rcx b s L) (hO : Own B w0 w (L ++ F)) (h1 : mayC s who = 0) (hv : s.vals = []) (hy : s.snd = []) (h2 : s.shut = false) (h5 : 256 ≤ s.rcv.length) :
    Calls Try.prog 97 #[.pointer (some ⟨b, 0, none⟩), .int .i64 who] w (RCOutPost B w0 b F (recvC s who)) := by
  have HR := Lib.hid (show recvC s who = ⟨false, ⟨0, 0⟩, 0, [], 7, s⟩ by simp [recvC, h1, hv, hy, h2, h5])
  have HB := Lib.hid (badC_zero h1)
  have hOZ := hO.allocAt outZ (n := w.heap.size) rfl
  have HG := Lib.hid (fun p hp => hOZ.get p (List.mem_cons_of_mem _ (List.mem_append_left _ hp)) : ∀ p ∈ L, _)
  have HX := Lib.hid hX
  have hOF := hOZ.allocAt outZ (n := w.heap.size + 1) (by simp)
  have hXZ : w.heap.size + 1 ≠ w.heap.size := by omega
  clear hO h1 hOZ
  go_enter Try.func97, Try.ntmps97
  go_upto_region 4 with (go_at_call 116; refine (bad116 b s _ who _ HX.out HG.out).mono ?_; rintro e w' ⟨rfl, rfl⟩; rw [HB.out])
  clear HG
  obtain ⟨Z, hZe⟩ : ∃ Z, w.heap.size = Z := ⟨_, rfl⟩
  obtain ⟨X, hXe⟩ : ∃ X, Z + 1 = X := ⟨_, rfl⟩
  rw [hZe, hXe] at hOF hXZ
  rw [hZe, hXe]
  generalize (w.alloc (.cells #[.bool false, .int .i64 0, .int .i64 0, .int .i64 0, .slice none 0 0] 33)).alloc (.cells #[.bool false, .int .i64 0, .int .i64 0, .int .i64 0, .slice none 0 0] 33) = W at hOF ⊢
  clear hZe hXe
  obtain ⟨v1, v2, v3, L1, L2, L3, hC, rfl⟩ := hX
  have hO1 := own_e hOF
  have hbX : b ≠ X := fun e => hO1.notMem (by simp [e])
  have hXb : X ≠ b := fun e => hbX e.symm
  have hbZ : b ≠ Z := fun e => hO1.notMem (by simp [e])
  have hZb : Z ≠ b := fun e => hbZ e.symm
  have hZX : Z ≠ X := fun e => hXZ e.symm
  have HC := Lib.hid hC
  clear hOF hC
  obtain ⟨c0, c1, c2, c3, c4⟩ := rc5 hO1.head
  have cf := free_of_get hO1.head
  have cl := lt_of_get hO1.head
  obtain ⟨x0, x1, x2, x3, x4⟩ := z5 hO1.tail.head
  have xf := free_of_get hO1.tail.head
  have xl := lt_of_get hO1.tail.head
  obtain ⟨z0, z1, z2, z3, z4⟩ := z5 hO1.tail.tail.head
  have zf := free_of_get hO1.tail.tail.head
  have zl := lt_of_get hO1.tail.tail.head
  have hu1 : ∃ a cp, v1 = .slice a 0 cp := by
    obtain ⟨a, cp, h, _, _⟩ := HC.out.s1.form
    rw [hv] at h
    exact ⟨a, cp, h⟩
  have hu2 : ∃ a cp, v2 = .slice a 0 cp := by
    obtain ⟨a, cp, h, _, _⟩ := HC.out.s2.form
    rw [hy] at h
    exact ⟨a, cp, h⟩
  obtain ⟨a1, q1, rfl⟩ := hu1
  obtain ⟨a2, q2, rfl⟩ := hu2
  obtain ⟨a3, q3, rfl, _, _⟩ := HC.out.s3.form
  have hls := HC.out.l3
  rw [h2] at c4
  clear hv hy h2
  have hO8 := out5 (hO1.shuf [[_], [_], [_], _] [2, 0, 1, 3] rfl rfl) (.bool false) (.int .i64 0) (.int .i64 0) (.int .i64 0) (.slice none 0 0)
  have HR8 := Lib.hid (z5 hO8.head)
  have HO8 := Lib.hid (own_f (L1 := L1) (L2 := L2) (L3 := L3) (R := [] ++ F) (hO8.shuf [[_], [_], [_], _] [0, 2, 1, 3] rfl rfl).tail.tail)
  clear hO8 hO1
  go_wp2
  obtain ⟨r0, r1, r2, r3, r4⟩ := HR8.out
  refine bodyPost_ret (v := .tuple #[outV false 0 0 0 (.slice none 0 0), .int .i64 7]) (by simp [results, Try.results97, go_sem, r0, r1, r2, r3, r4]) rfl ?_
  exact rcout_mk (Lk := []) _ HR rfl Sl.nil HX.out HO8.out

set_option maxRecDepth 100000 in
set_option maxHeartbeats 4000000 in
theorem rcrecv_wait (B : Nat) (w0 : World) (b : Nat) (s : CS) (L F : List (Nat × Obj)) (who : Int) (w : World) (hX : Rcx b s L) (hO : Own B w0 w (L ++ F)) (h1 : mayC s who = 0) (hv : s.vals = []) (hy : s.snd = []) (h2 : s.shut = false) (h5 : ¬ 256 ≤ s.rcv.length) :
    Calls Try.prog 97 #[.pointer (some ⟨b, 0, none⟩), .int .i64 who] w (RCOutPost B w0 b F (recvC s who)) := by
  have HR := Lib.hid (show recvC s who = ⟨false, ⟨0, 0⟩, 0, [], 0, ⟨s.room, s.vals, s.snd, s.rcv ++ [⟨who, 0, 0⟩], s.shut⟩⟩ by simp [recvC, h1, hv, hy, h2, h5])
  have HB := Lib.hid (badC_zero h1)
  have hOZ := hO.allocAt outZ (n := w.heap.size) rfl
  have HG := Lib.hid (fun p hp => hOZ.get p (List.mem_cons_of_mem _ (List.mem_append_left _ hp)) : ∀ p ∈ L, _)
  have HX := Lib.hid hX
  have hOF := hOZ.allocAt outZ (n := w.heap.size + 1) (by simp)
  have hXZ : w.heap.size + 1 ≠ w.heap.size := by omega
  clear hO h1 hOZ
  go_enter Try.func97, Try.ntmps97
  go_upto_region 4 with (go_at_call 116; refine (bad116 b s _ who _ HX.out HG.out).mono ?_; rintro e w' ⟨rfl, rfl⟩; rw [HB.out])
  clear HG
  obtain ⟨Z, hZe⟩ : ∃ Z, w.heap.size = Z := ⟨_, rfl⟩
  obtain ⟨X, hXe⟩ : ∃ X, Z + 1 = X := ⟨_, rfl⟩
  rw [hZe, hXe] at hOF hXZ
  rw [hZe, hXe]
  generalize (w.alloc (.cells #[.bool false, .int .i64 0, .int .i64 0, .int .i64 0, .slice none 0 0] 33)).alloc (.cells #[.bool false, .int .i64 0, .int .i64 0, .int .i64 0, .slice none 0 0] 33) = W at hOF ⊢
  clear hZe hXe
  obtain ⟨v1, v2, v3, L1, L2, L3, hC, rfl⟩ := hX
  have hO1 := own_e hOF
  have hbX : b ≠ X := fun e => hO1.notMem (by simp [e])
  have hXb : X ≠ b := fun e => hbX e.symm
  have hbZ : b ≠ Z := fun e => hO1.notMem (by simp [e])
  have hZb : Z ≠ b := fun e => hbZ e.symm
  have hZX : Z ≠ X := fun e => hXZ e.symm
  have HC := Lib.hid hC
  clear hOF hC
  obtain ⟨c0, c1, c2, c3, c4⟩ := rc5 hO1.head
  have cf := free_of_get hO1.head
  have cl := lt_of_get hO1.head
  obtain ⟨x0, x1, x2, x3, x4⟩ := z5 hO1.tail.head
  have xf := free_of_get hO1.tail.head
  have xl := lt_of_get hO1.tail.head
  obtain ⟨z0, z1, z2, z3, z4⟩ := z5 hO1.tail.tail.head
  have zf := free_of_get hO1.tail.tail.head
  have zl := lt_of_get hO1.tail.tail.head
  have hu1 : ∃ a cp, v1 = .slice a 0 cp := by
    obtain ⟨a, cp, h, _, _⟩ := HC.out.s1.form
    rw [hv] at h
    exact ⟨a, cp, h⟩
  have hu2 : ∃ a cp, v2 = .slice a 0 cp := by
    obtain ⟨a, cp, h, _, _⟩ := HC.out.s2.form
    rw [hy] at h
    exact ⟨a, cp, h⟩
  obtain ⟨a1, q1, rfl⟩ := hu1
  obtain ⟨a2, q2, rfl⟩ := hu2
  obtain ⟨a3, q3, rfl, _, _⟩ := HC.out.s3.form
  have hls := HC.out.l3
  rw [h2] at c4
  clear hv hy h2
  obtain ⟨i0, hi, hz0, hz1, hz2⟩ := info_parts Try.info174
  have hsn : (s.rcv.length : Int) < 256 := by omega
  have cl1 : b < W.heap.size + 1 := by omega
  have HS := Lib.hid HC.out.s3
  have HA := Lib.hid ((hO1.allocAt (box174 ⟨who, 0, 0⟩) (n := W.heap.size) rfl).shuf [[_], [_], [_], [_], L1, L2, L3, F] [0, 6, 1, 2, 3, 4, 5, 7] rfl rfl)
  clear hO1 h5 cf x1 x2 x3 x4 xf z0 z1 z2 z3 z4 zf zl
  go_wp2_with (at_builtin; refine wpList_append_sl rfl (.tmp 81) (.tmp 84) 154 rfl _ _ _ Try.underlying154 hi hz0 hz1 hz2 rfl C3_len C3_one rfl HS.out (by exact HA.out.tail) ⟨W.heap.size, 0, none⟩ [⟨who, 0, 0⟩] 1 1 rfl rfl (news_blk (C := #[.int .i64 who, .int .i64 0, .int .i64 0]) (t := 174) (fr := (0, 0)) (by exact HA.out.head)) (by decide) (by unfold maxLen; omega) (by omega) ?_)
  intro g off cap' w1 L' hS1 hO3 _ _
  have hO4 := hO3.shuf [L', [_], [_], [_], L1, L2, F] [1, 2, 3, 4, 5, 0, 6] rfl rfl
  clear c0 c1 c2 c3 c4 cl x0 xl
  obtain ⟨c0, c1, c2, c3, c4⟩ := rc5 hO4.head
  have cf := free_of_get hO4.head
  have cl := lt_of_get hO4.head
  obtain ⟨z0, z1, z2, z3, z4⟩ := z5 hO4.tail.tail.head
  have zf := free_of_get hO4.tail.tail.head
  have zl := lt_of_get hO4.tail.tail.head
  have hO8 := out5 ((hO4.setTo 3 (.slice (some ⟨g, off, none⟩) (s.rcv.length + 1) cap') rfl).shuf [[_], [_], [_], _] [2, 0, 1, 3] rfl rfl) (.bool false) (.int .i64 0) (.int .i64 0) (.int .i64 0) (.slice none 0 0)
  have HR8 := Lib.hid (z5 hO8.head)
  have HO8 := Lib.hid (own_f (L1 := L1) (L2 := L2) (L3 := L') (R := [] ++ F) (hO8.shuf [[_], [_], [_], _] [0, 2, 1, 3] rfl rfl).tail.tail)
  have HS1 := Lib.hid hS1
  clear hO8 hO3 hO4 hS1
  go_wp2
  obtain ⟨r0, r1, r2, r3, r4⟩ := HR8.out
  refine bodyPost_ret (v := .tuple #[outV false 0 0 0 (.slice none 0 0), .int .i64 0]) (by simp [results, Try.results97, go_sem, r0, r1, r2, r3, r4]) rfl ?_
  exact rcout_mk (Lk := []) _ HR rfl Sl.nil ⟨_, _, _, L1, L2, L', ⟨HC.out.s1, HC.out.s2, by simpa using HS1.out, HC.out.l1, HC.out.l2, by simp; omega, HC.out.r0, HC.out.r1⟩, rfl⟩ HO8.out

theorem rcrecv (B : Nat) (w0 : World) (b : Nat) (s : CS) (L F : List (Nat × Obj)) (who : Int) (w : World) (hX : Rcx b s L) (hO : Own B w0 w (L ++ F)) :
    Calls Try.prog 97 #[.pointer (some ⟨b, 0, none⟩), .int .i64 who] w (RCOutPost B w0 b F (recvC s who)) := by
  rcases mayC_cases s who with h1 | h1
  · cases hv : s.vals with
    | cons v vs =>
      cases hy : s.snd with
      | cons y r => exact rcrecv_both B w0 b s L F who w hX hO h1 v vs hv y r hy
      | nil => exact rcrecv_val B w0 b s L F who w hX hO h1 v vs hv hy
    | nil =>
      cases hy : s.snd with
      | cons y r => exact rcrecv_snd B w0 b s L F who w hX hO h1 hv y r hy
      | nil =>
        cases h2 : s.shut with
        | true => exact rcrecv_shut B w0 b s L F who w hX hO h1 hv hy h2
        | false =>
          by_cases h5 : 256 ≤ s.rcv.length
          · exact rcrecv_full B w0 b s L F who w hX hO h1 hv hy h2 h5
          · exact rcrecv_wait B w0 b s L F who w hX hO h1 hv hy h2 h5
  · exact rcrecv_bad B w0 b s L F who w hX hO h1

end Go.Proofs.Ytidnkienkdlmkaa
