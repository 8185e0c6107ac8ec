/-
  The walk of shuttlelaw17.CondTurn: it returns true. No condition.
-/
import Derived.Test.YtidnkienkdlmkaaCdI
import Derived.Test.YtidnkienkdlmkaaCdArg
import Derived.Test.YtidnkienkdlmkaaCdTurnP
import Derived.Test.YtidnkienkdlmkaaMxDoes
import Derived.Deep.RegionHeld3
import Derived.Deep.DeepCutAuto
import Derived.Deep.CutBlock
import Derived.Deep.DrawnRows
import Derived.Carry
namespace Go.Proofs.Ytidnkienkdlmkaa
open Go.RowKit Go.Sh

/-- How far the mutex is from being free. -/
def mxLeft (b : Nat) (w : World) : Nat := match w.cell? ⟨b, 1, none⟩ with
  | some (.pointer (some _)) => match w.cell? ⟨b, 2, none⟩ with
    | some (.slice _ n _) => n + 1
    | _ => 1
  | _ => 0

def mxN (own : Option Int) (ws : List Int) : Nat := match own with | none => 0 | some _ => ws.length + 1
theorem mxLeft_of {b : Nat} {own : Option Int} {ws : List Int} {L : List (Nat × Obj)} {w : World} (hM : Mx b own ws L) (hg : ∀ p ∈ L, w.heap[p.1]? = some p.2) : mxLeft b w = mxN own ws := by
  obtain ⟨o, v, Lo, Lv, rfl, hB, hS, _⟩ := hM
  have hb := hg _ List.mem_cons_self
  have c1 : w.cell? ⟨b, 1, none⟩ = some (.pointer o) := cell_of_get hb 1
  have c2 : w.cell? ⟨b, 2, none⟩ = some v := cell_of_get hb 2
  obtain ⟨ao, cap, rfl, _, _⟩ := hS.form
  unfold mxLeft
  rw [c1, c2]
  rcases hB with ⟨rfl, rfl, _⟩ | ⟨b', x, rfl, rfl, _⟩
  · rfl
  · rfl

def T1Rel (B : Nat) (w0 : World) (bx bc b0 b1 N : Nat) (v i : Value) (wr : World) : Prop :=
  ∃ (k : Nat) (P : List Int) (L La : List (Nat × Obj)), k ≤ N ∧ i = .int .i64 k ∧ P.Nodup ∧ (∀ x ∈ P, 0 ≤ x ∧ x ≤ 255) ∧ P.length ≤ k ∧ Sl 3 1 I v P La ∧ Wx bx bc b0 b1 (TSt [] P 0) L ∧ Own B w0 wr (L ++ La)

def T1Cut (B : Nat) (w0 : World) (bx bc b0 b1 Z : Nat) (x : Int) (P : List Int) (La : List (Nat × Obj)) (s14 s15 : Value) (wx : World) : Prop :=
  ∃ (Y : Nat) (v : Value) (L : List (Nat × Obj)), s14 = .pointer (some ⟨Y, 0, none⟩) ∧ s15 = .int .i64 0 ∧ Wx bx bc b0 b1 (TSt [] (P ++ [x]) 0) L ∧ Own B w0 wx ((Y, outO false 0 0 0 v) :: (Z, outO true 0 0 0 (.slice none 0 0)) :: (L ++ La))

def T2Rel (B : Nat) (w0 : World) (bx bc b0 b1 n : Nat) (order : List Int) (La : List (Nat × Obj)) (v i : Value) (wr : World) : Prop :=
  ∃ (k : Nat) (P R : List Int) (L Lg : List (Nat × Obj)), k ≤ n ∧ i = .int .i64 k ∧ P ++ R = order ∧ Sl 3 1 I v (P.take 1) Lg ∧ Wx bx bc b0 b1 (TSt P R 0) L ∧ Own B w0 wr (Lg ++ (L ++ La))

def T3Rel (B : Nat) (w0 : World) (g0 : List Int) (ws : List Wk) (R : List (Nat × Obj)) (v i : Value) (wr : World) : Prop :=
  ∃ (j : Nat) (Lg : List (Nat × Obj)), j ≤ ws.length ∧ i = .int .i64 j ∧ Sl 3 1 I v (g0 ++ (ws.take j).map Wk.who) Lg ∧ Own B w0 wr (Lg ++ R)

def T4Rel (B : Nat) (w0 : World) (bx bc b0 b1 : Nat) (P R : List Int) (La : List (Nat × Obj)) (v : Value) (wr : World) : Prop :=
  ∃ (t : Nat) (L Lg : List (Nat × Obj)), t ≤ P.length ∧ Sl 3 1 I v (P.take (t + 1)) Lg ∧ Wx bx bc b0 b1 (TSt P R t) L ∧ Own B w0 wr (Lg ++ (L ++ La))

theorem wakes_at {ak : Option Addr} {ck : Nat} {ws : List Wk} {Lk : List (Nat × Obj)} (hK : Sl 38 4 W4 (.slice ak ws.length ck) ws Lk) (wr : World) (hg : ∀ p ∈ Lk, wr.heap[p.1]? = some p.2) (i : Nat) (hi : i < ws.length) :
    ∃ g off, ak = some ⟨g, off, none⟩ ∧ g < wr.heap.size ∧ wr.cell? ⟨g, off + i * 4, none⟩ = some (.int .i64 ws[i].who) ∧ wr.cell? ⟨g, off + i * 4 + 1, none⟩ = some (.int .i64 ws[i].t) ∧
      wr.cell? ⟨g, off + i * 4 + 2, none⟩ = some (.int .i64 ws[i].n) ∧ wr.cell? ⟨g, off + i * 4 + 3, none⟩ = some (.int .i64 ws[i].f) := by
  obtain ⟨a', c', e1, e2⟩ := rd_wakes (Sl_rd (w := wr) hK hg)
  simp only [Value.slice.injEq, true_and] at e1
  obtain ⟨rfl, rfl⟩ := e1
  obtain ⟨g, off, rfl, hg, hc⟩ := e2 i hi
  exact ⟨g, off, rfl, hg, hc i hi⟩

theorem kdT {w : World} {a : Addr} {v : Value} (h : w.cell? a = some v) : w.drew.cell? a = some v := h
theorem kpT {w : World} {a : Addr} {v : Value} {o : Obj} (h : w.cell? a = some v) : (w.alloc o).cell? a = some v := cell_al o h
theorem ksT {w : World} {p a : Addr} {v u : Value} (h : w.cell? a = some v) (hne : p.block ≠ a.block) : (w.setCell p u).cell? a = some v := by
  rw [World.cell?_setCell_far _ _ _ _ hne]; exact h

theorem wait_v (B : Nat) (w0 : World) (bc b0 b1 : Nat) (P : List Int) (x : Int) (L F : List (Nat × Obj)) (w : World) (h0 : 0 ≤ x) (h1 : x ≤ 255) (h2 : x ∉ P) (h3 : P.length < 256) (hK : Kw bc b0 b1 ⟨tq P, some x, [], none, []⟩ L) (hO : Own B w0 w (L ++ F)) :
    Calls Try.prog 33 #[.pointer (some ⟨bc, 0, none⟩), .int .i64 x, .pointer (some ⟨b0, 0, none⟩)] w fun e w' => ∃ ak ck Lk L', e = .returned (.tuple #[outV false 0 0 0 (.slice ak 0 ck), .int .i64 0]) ∧ Kw bc b0 b1 (TSt [] (P ++ [x]) 0) L' ∧ Own B w0 w' (L' ++ (Lk ++ F)) := by
  refine (wait33 B w0 bc b0 b1 _ L F x false w hK hO).mono ?_
  rw [wait_fresh h0 h1 h2 h3]
  rintro e w' ⟨wk, Lk, L', rfl, hS, hK', hO'⟩
  obtain ⟨ak, ck, rfl, _, _⟩ := hS.form
  exact ⟨ak, ck, Lk, L', rfl, hK', hO'⟩

set_option maxRecDepth 100000 in
set_option maxHeartbeats 8000000 in
theorem turn10 (xs : List Int) (ao : Option Addr) (cap : Nat) (a : Int) (w : World) (hR : Rd w U8 (.slice ao xs.length cap) xs) (hok : ∀ x ∈ xs, (Lit.int .u8 x).wf = true) (hx : xs.length ≤ 9223372036854775807) (hcap : xs.length ≤ cap) (ha : (Lit.int .u8 a).wf = true) :
    Calls Try.prog 10 #[.slice ao xs.length cap, .int .u8 a] w fun e w' => e = .returned (.bool true) ∧ Below w.heap.size w w' := by
  obtain ⟨ao', cap', he, r1⟩ := rd_u8 hR
  simp only [Value.slice.injEq, true_and] at he
  obtain ⟨rfl, rfl⟩ := he
  have R1 := Lib.hid r1
  have HOK := Lib.hid (show ∀ j (hj : j < xs.length), 0 ≤ xs[j] ∧ xs[j] ≤ 255 from fun j hj => u8_wf (hok _ (List.getElem_mem hj)))
  have ha0 : 0 ≤ a ∧ a ≤ 255 := u8_wf ha
  obtain ⟨ha0, ha1⟩ := ha0
  obtain ⟨N, hN1, hN2, hmin⟩ : ∃ N : Nat, N ≤ xs.length ∧ N ≤ 100 ∧ (if (100 : Int) < (xs.length : Int) then 100 else (xs.length : Int)) = (N : Int) := ⟨min xs.length 100, by omega, by omega, by split <;> omega⟩
  obtain ⟨i0, hi, hz0, hz1, hz2⟩ := info_parts Try.info3
  clear hR r1 hok ha
  have hO0 := Own.start w
  have s0 : sevK (min ks0.q.length 1) ks0 = ([], ks0) := rfl
  have S0 := Lib.hid s0
  clear s0
  go_enter Try.func10, Try.ntmps10
  go_wp2_with fail
  refine (begun29 w.heap.size w [] _ hO0).mono ?_
  rintro e w1 ⟨bx, bc, b0, b1, L0, rfl, hX, hO1⟩
  have HO1 := Lib.hid hO1
  clear hO0 hO1
  go_wp2_with fail
  refine (awake30 w.heap.size w _ _ HO1.out).mono ?_
  rintro e w2 ⟨rfl, hO2⟩
  obtain ⟨Lk, hL0, hK⟩ := hX
  have hgb := hO2.get (bx, gobjW bc b0 b1) (by simp [hL0])
  obtain ⟨g0, g1, g2⟩ := gob3 hgb
  have gl := lt_of_get hgb
  have HO2 := Lib.hid (show Own w.heap.size w w2 (Lk ++ [(bx, gobjW bc b0 b1)]) from hO2.perm (by rw [hL0]; simp; exact List.perm_append_comm (l₁ := [_])))
  clear hO2 hgb HO1
  go_wp2_with fail
  refine (signal34 w.heap.size w bc b0 b1 ks0 Lk _ _ hK HO2.out).mono ?_
  rw [S0.out]
  rintro e w3 ⟨wk, Lw, L1, rfl, hSk, hK1, hO3⟩
  dsimp only at hSk hK1 ⊢
  obtain ⟨ak, ck, rfl, _, _⟩ := hSk.form
  have hO4 := (hO3.shuf [L1, Lw, [_]] [2, 0, 1] rfl rfl).alloc (outO true 0 0 0 (.slice ak 0 ck))
  have HR1 := Lib.hid (Sl_rd hSk (fun p hp => hO4.get p (by simp [cat, hp])))
  have HO4 := Lib.hid hO4
  clear hO3 hO4 hSk hK HO2 g0 g1 g2 gl hL0 S0
  go_wp2_with fail
  refine (same24 w.heap.size w _ true 0 0 0 [] _ (.slice none 0 0) _ HR1.out (.inl ⟨rfl, _, _, rfl⟩) HO4.out (by simp)).mono ?_
  rintro e w4 ⟨rfl, hO5⟩
  have HO5 := Lib.hid (show Own w.heap.size w w4 ((bx, gobjW bc b0 b1) :: L1) from by simpa [cat] using (hO5.tail.shuf [[_], L1, Lw] [2, 0, 1] rfl rfl).right)
  clear hO5 HO4 HR1
  go_wp2
  clear hmin
  go_loopw [8, 56] (fun v i wr => T1Rel w.heap.size w bx bc b0 b1 N v i wr) (fun _ i _ => N - (intOf i).toNat)
  case atStart => exact ⟨0, [], _, [], Nat.zero_le _, rfl, List.nodup_nil, by simp, Nat.le_refl _, Sl.nil, ⟨L1, rfl, hK1⟩, by simpa using HO5.out⟩
  case round =>
    clear HO5 hK1
    obtain ⟨k, P, L, La, hk, rfl, hnd, hin, hpl, hS, ⟨Lk, rfl, hK⟩, hO⟩ := hrel
    obtain ⟨pa, pc, rfl, hpc, hpm⟩ := hS.form
    have HS := Lib.hid hS
    have HND := Lib.hid hnd
    have HIN := Lib.hid hin
    clear hS hnd hin
    by_cases hlt : k < N
    · obtain ⟨g, off, rfl, hgl, e0⟩ := R1.out k (by omega)
      obtain ⟨hx0, hx1⟩ := HOK.out k (by omega)
      have c0 := (hO.below.cell (p := ⟨g, off + k, none⟩) hgl).trans e0
      have hkx : k < xs.length := by omega
      obtain ⟨x, hxe⟩ : ∃ x, xs[k] = x := ⟨_, rfl⟩
      rw [hxe] at hx0 hx1 c0
      clear e0 hxe
      have HRd := Lib.hid (Sl_rd (w := wr) HS.out (fun p hp => hO.get p (by simp [hp])))
      by_cases hc : x ∈ P
      · have hcb : P.contains x = true := by simpa using hc
        have HC := Lib.hid hcb
        have HO := Lib.hid hO
        clear hc hcb hO
        go_wp2_with (go_at_call 23; refine (contains_any P x _ _ (by omega) HRd.out).mono ?_; rintro e w' ⟨rfl, rfl⟩; rw [HC.out])
        exact ⟨⟨k + 1, P, _, La, by omega, by go_num, HND.out, HIN.out, by omega, HS.out, ⟨Lk, rfl, hK⟩, HO.out⟩, by simp [intOf]; omega⟩
      · have hcb : P.contains x = false := by simpa using hc
        have HC := Lib.hid hcb
        have HX := Lib.hid hc
        have hgb := hO.get (bx, gobjW bc b0 b1) (by simp)
        obtain ⟨g0, g1, g2⟩ := gob3 hgb
        have gl := lt_of_get hgb
        obtain ⟨Lm, R, hsp, hM, _, hback⟩ := hK.mutex (B := w.heap.size) (w0 := w) false
        have HO1 := Lib.hid (hsp _ ((bx, gobjW bc b0 b1) :: La) (hO.shuf [[_], Lk, La] [1, 0, 2] rfl rfl))
        have HB := Lib.hid hback
        have hM2 : Mx b0 none [] Lm := hM
        have HL := Lib.hid (lock_fresh hx0 hx1)
        clear hO hc hcb hgb hsp hback hK hM
        go_wp2_with (first | (go_at_call 23; refine (contains_any P x _ _ (by omega) HRd.out).mono ?_; rintro e w' ⟨rfl, rfl⟩; rw [HC.out]) | fail)
        refine (lock_any w.heap.size w b0 none [] Lm _ x _ hM2 HO1.out).mono ?_
        rw [HL.out]
        rintro e w2 ⟨rfl, Lm', hM3, hO2⟩
        dsimp only at hM3 ⊢
        obtain ⟨L2, hK2, hb2⟩ := HB.out (some x) [] Lm' hM3
        have hK3 : Kw bc b0 b1 ⟨tq P, some x, [], none, []⟩ L2 := hK2
        have hO3 := (hb2 _ _ hO2).alloc (outO true 0 0 0 (.slice none 0 0))
        have HO3 := Lib.hid (hO3.shuf [[_], L2, [_], La] [1, 0, 2, 3] rfl rfl)
        clear hO2 hb2 HB HO1 hM3 hM2 hO3 g0 g1 g2 gl HRd c0
        go_upto_region 14 with fail
        obtain ⟨Z, hZe⟩ : ∃ Z, w2.heap.size = Z := ⟨_, rfl⟩
        rw [hZe] at HO3 ⊢
        generalize w2.alloc (.cells #[.bool true, .int .i64 0, .int .i64 0, .int .i64 0, .slice none 0 0] 33) = W at HO3 ⊢
        clear hZe
        have hgb := HO3.out.get (bx, gobjW bc b0 b1) (by simp [cat])
        obtain ⟨g0, g1, g2⟩ := gob3 hgb
        have gl := lt_of_get hgb
        clear hgb
        go_cut [14, 15] (fun s14 s15 wx => T1Cut w.heap.size w bx bc b0 b1 Z x P La s14 s15 wx)
        case first =>
          have HKW := Lib.hid hK3
          have HPL := Lib.hid (show P.length < 256 by omega)
          have HOd := Lib.hid HO3.out.drew
          have HOa := Lib.hid ((HO3.out.alloc kZ).shuf [[_], L2, [_], [_], La] [1, 0, 2, 3, 4] rfl rfl).drew
          clear hK2 hK3 HO3
          go_region_law (first
              | (go_simp; go_at_call 33; (with_reducible refine (wait_v w.heap.size w bc b0 b1 P x L2 _ _ hx0 hx1 HX.out HPL.out HKW.out HOd.out).mono ?_); rintro e w3 ⟨ak', ck', Lw, L3, rfl, hK4, hO4⟩; obtain ⟨k0, k1, _⟩ := gob3 (hO4.get (bx, gobjW bc b0 b1) (List.mem_append_right _ (List.mem_append_right _ (List.mem_cons_of_mem _ List.mem_cons_self)))))
              | (go_simp; go_at_call 33; (with_reducible refine (wait_v w.heap.size w bc b0 b1 P x L2 _ _ hx0 hx1 HX.out HPL.out HKW.out HOa.out).mono ?_); rintro e w3 ⟨ak', ck', Lw, L3, rfl, hK4, hO4⟩; obtain ⟨k0, k1, _⟩ := gob3 (hO4.get (bx, gobjW bc b0 b1) (List.mem_append_right _ (List.mem_append_right _ (List.mem_cons_of_mem _ (List.mem_cons_of_mem _ List.mem_cons_self)))))); obtain ⟨y0, y1, y2, y3, y4⟩ := z5 (hO4.get (W.heap.size, kZ) (List.mem_append_right _ (List.mem_append_right _ List.mem_cons_self))); have yf := free_of_get (hO4.get (W.heap.size, kZ) (List.mem_append_right _ (List.mem_append_right _ List.mem_cons_self))); have yl := lt_of_get (hO4.get (W.heap.size, kZ) (List.mem_append_right _ (List.mem_append_right _ List.mem_cons_self))))
          all_goals go_wp2_with fail
          all_goals go_meet
          all_goals first
            | exact ⟨w3.heap.size, .slice ak' 0 ck', (bx, gobjW bc b0 b1) :: L3, rfl, rfl, ⟨L3, rfl, hK4⟩, ((hO4.alloc (outO false 0 0 0 (.slice ak' 0 ck'))).shuf [[_], L3, Lw, [_], [_], La] [2, 0, 3, 4, 1, 5] rfl rfl).right⟩
            | exact ⟨W.heap.size, .slice ak' 0 ck', (bx, gobjW bc b0 b1) :: L3, rfl, rfl, ⟨L3, rfl, hK4⟩, ((out5 (hO4.shuf [L3, Lw, [_], [_], [_], La] [2, 1, 3, 4, 0, 5] rfl rfl) _ _ _ _ _).shuf [[_], Lw, [_], [_], L3, La] [1, 0, 2, 3, 4, 5] rfl rfl).right⟩
        case rest =>
          obtain ⟨Y, v, L3, rfl, rfl, ⟨Lk3, rfl, hK4⟩, hO4⟩ := hcut
          obtain ⟨y0, y1, y2, y3, y4⟩ := z5 hO4.head
          have yl := lt_of_get hO4.head
          have hzb := hO4.tail.head
          obtain ⟨z0, z1, z2, z3, z4⟩ := z5 hzb
          have zl := lt_of_get hzb
          have HO4 := Lib.hid (hO4.tail.tail.shuf [[_], Lk3, La] [2, 0, 1] rfl rfl)
          have HK4 := Lib.hid hK4
          clear hO4 hzb g0 g1 g2 gl HO3 hK3 hK4 hK2
          have hpl2 : P.length ≤ 100 := by omega
          go_wp2_with (at_builtin; refine wpList_append_sl rfl (.tmp 109) (.tmp 111) 26 rfl _ _ _ Try.underlying26 hi hz0 hz1 hz2 rfl I_len I_one rfl HS.out (F := (bx, gobjW bc b0 b1) :: Lk3) (by exact (HO4.out.shuf [La, [_], Lk3] [0, 1, 2] rfl rfl).junk _) ⟨_, 0, none⟩ [x] 1 1 rfl rfl (news_one (x := .int .i64 x) (by simp [World.cell?_alloc_at])) (by decide) (by unfold maxLen; omega) (by omega) ?_)
          intro g' off' cap' w5 L5 hS5 hO5 _ _
          clear y0 y1 y2 y3 y4 yl z0 z1 z2 z3 z4 zl HO4
          go_wp2
          exact ⟨⟨k + 1, P ++ [x], _, L5, by omega, by go_num, by
              rw [List.nodup_append]
              exact ⟨HND.out, by simp, by intro a ha b hb; simp at hb; subst hb; intro e; subst e; exact HX.out ha⟩, fun y hy => by
              rcases List.mem_append.1 hy with h | h
              · exact HIN.out y h
              · simp at h; subst h; exact ⟨hx0, hx1⟩, by simp; omega, by simpa using hS5, ⟨Lk3, rfl, HK4.out⟩, hO5.comm⟩, by simp [intOf]; omega⟩
    · obtain rfl : k = N := by omega
      have hpl2 : P.length ≤ 100 := by omega
      obtain ⟨n, hn⟩ : ∃ n : Nat, a % ((P.length : Int) + 3) = n := ⟨(a % ((P.length : Int) + 3)).toNat, by rw [Int.toNat_of_nonneg]; exact Int.emod_nonneg _ (by omega)⟩
      have hn2 : n ≤ 300 := by have := Int.emod_lt_of_pos a (show (0 : Int) < (P.length : Int) + 3 by omega); omega
      have HO := Lib.hid hO
      clear hO
      go_wp2
      rw [hn]
      go_loopw [16, 120] (fun v i wr => T2Rel w.heap.size w bx bc b0 b1 n P La v i wr) (fun _ i _ => n - (intOf i).toNat)
      case atStart => exact ⟨0, [], P, _, [], Nat.zero_le _, rfl, rfl, Sl.nil, ⟨Lk, rfl, hK⟩, HO.out⟩
      case round =>
        clear HO hK hn
        obtain ⟨k, P', R, L, Lg, hk, rfl, hPR, hSg, ⟨Lk, rfl, hK⟩, hO⟩ := hrel
        obtain ⟨ga, gc, rfl, hgc, hgm⟩ := hSg.form
        have hpl3 : P'.length ≤ 100 := by rw [← hPR] at hpl2; simp at hpl2; omega
        have hinR : ∀ x ∈ R, 0 ≤ x ∧ x ≤ 255 := fun x hx => HIN.out x (by rw [← hPR]; simp [hx])
        have hinP : ∀ x ∈ P', 0 ≤ x ∧ x ≤ 255 := fun x hx => HIN.out x (by rw [← hPR]; simp [hx])
        have hnd2 : (P' ++ R).Nodup := by rw [hPR]; exact HND.out
        have HSg := Lib.hid hSg
        by_cases hlt : k < n
        · obtain ⟨P2, R2, ws, hsev, hPR2, hws, hwl⟩ := signal_next hinR hnd2 (by omega)
          have HSV := Lib.hid hsev
          have HPR2 := Lib.hid (hPR2.trans hPR)
          have HWS := Lib.hid hws
          have hgb := hO.get (bx, gobjW bc b0 b1) (by simp)
          obtain ⟨g0, g1, g2⟩ := gob3 hgb
          have gl := lt_of_get hgb
          have HO1 := Lib.hid (hO.shuf [Lg, [_], Lk, La] [2, 0, 1, 3] rfl rfl)
          clear hsev hPR2 hws hSg hinR hinP hnd2 hgb hO hPR
          go_wp2_with fail
          refine (signal34 w.heap.size w bc b0 b1 (TSt P' R 0) Lk _ _ hK HO1.out).mono ?_
          rw [HSV.out]
          rintro e w3 ⟨wk, Lw, L1, rfl, hSk, hK1, hO3⟩
          dsimp only at hSk hK1 ⊢
          obtain ⟨ak, ck, rfl, _, _⟩ := hSk.form
          have HSk := Lib.hid hSk
          have HK1 := Lib.hid hK1
          have HO3 := Lib.hid ((hO3.junk (outO true 0 0 0 (.slice ak ws.length ck))).shuf [L1, Lw, Lg, [_], La] [2, 1, 3, 0, 4] rfl rfl)
          clear hO3 hSk hK1 HO1 hK g0 g1 g2 gl HSV
          go_wp2
          go_loopw [16, 140] (fun v i wr => T3Rel w.heap.size w (P'.take 1) ws (Lw ++ ((bx, gobjW bc b0 b1) :: (L1 ++ La))) v i wr) (fun _ i _ => ws.length - (intOf i).toNat)
          case atStart => exact ⟨0, Lg, Nat.zero_le _, rfl, by simpa using HSg.out, HO3.out⟩
          case round =>
            clear HO3 HSg
            obtain ⟨j, Lg', hj, rfl, hSg, hO⟩ := hrel
            obtain ⟨ga, gc, rfl, hgc, hgm⟩ := hSg.form
            by_cases hlj : j < ws.length
            · obtain ⟨g, off, rfl, hgl, k0, k1, k2, k3⟩ := wakes_at HSk.out _ (fun p hp => hO.get p (by simp [hp])) j hlj
              have hji : (j : Int) < ws.length := by omega
              obtain ⟨⟨kw, kt, kn, kf⟩, hkx⟩ : ∃ x, ws[j] = x := ⟨_, rfl⟩
              have hnx : P'.take 1 ++ (ws.take (j + 1)).map Wk.who = (P'.take 1 ++ (ws.take j).map Wk.who) ++ [kw] := by
                rw [List.take_succ_eq_append_getElem hlj, hkx]; simp
              rw [hkx] at k0 k1 k2 k3
              dsimp only at k0 k1 k2 k3
              have HNX := Lib.hid hnx
              have HSg := Lib.hid hSg
              have HO := Lib.hid hO
              have hlen : (P'.take 1 ++ (ws.take j).map Wk.who).length ≤ 100000 := by simp; omega
              generalize P'.take 1 ++ (ws.take j).map Wk.who = gl at *
              clear hkx hnx hSg hO
              go_wp2_with (at_builtin; refine wpList_append_sl rfl (.tmp 144) (.tmp 147) 26 rfl _ _ _ Try.underlying26 hi hz0 hz1 hz2 rfl I_len I_one rfl HSg.out (F := Lw ++ ((bx, gobjW bc b0 b1) :: (L1 ++ La))) (by exact (HO.out.junk _).junk _) ⟨_, 0, none⟩ [kw] 1 1 rfl rfl (news_one (x := .int .i64 kw) (by simp [World.cell?_alloc_at])) (by decide) (by unfold maxLen; omega) (by omega) ?_)
              intro g' off' cap' w5 L5 hS5 hO5 _ _
              clear k0 k1 k2 k3 HO
              go_wp2
              exact ⟨⟨j + 1, L5, by omega, by go_num, by rw [HNX.out]; simpa using hS5, hO5⟩, by simp [intOf]; omega⟩
            · obtain rfl : j = ws.length := by omega
              rw [List.take_length, HWS.out] at hSg
              rw [List.take_length, HWS.out]
              have HSg := Lib.hid hSg
              clear hSg
              go_wp2
              exact ⟨⟨k + 1, P2, R2, _, Lg', by omega, by go_num, HPR2.out, HSg.out, ⟨L1, rfl, HK1.out⟩, (hO.shuf [Lg', Lw, (bx, gobjW bc b0 b1) :: (L1 ++ La)] [1, 0, 2] rfl rfl).right⟩, by simp [intOf]; omega⟩
        · obtain rfl : k = n := by omega
          have HNP := Lib.hid (List.nodup_append.1 hnd2).1
          have HINP := Lib.hid hinP
          have HO := Lib.hid hO
          clear hinR hinP hnd2 hSg hO
          go_wp2
          go_loopw [16] (fun v wr => T4Rel w.heap.size w bx bc b0 b1 P' R La v wr) (fun _ wr => mxLeft b0 wr)
          case atStart => exact ⟨0, _, Lg, Nat.zero_le _, HSg.out, ⟨Lk, rfl, hK⟩, HO.out⟩
          case round =>
            clear HO hK HSg hgc hgm
            obtain ⟨t, L, Lg, ht, hSg, ⟨Lk, rfl, hK⟩, hO⟩ := hrel
            obtain ⟨gl, hgl⟩ : ∃ gl, P'.take (t + 1) = gl := ⟨_, rfl⟩
            rw [hgl] at hSg
            have hgll : gl.length ≤ 100 := by rw [← hgl]; simp; omega
            obtain ⟨ga, gc, rfl, hgc, hgm⟩ := hSg.form
            have hgb := hO.get (bx, gobjW bc b0 b1) (by simp)
            obtain ⟨g0, g1, g2⟩ := gob3 hgb
            have gll := lt_of_get hgb
            obtain ⟨Lm0, hM0, hLm0⟩ := hK.mem false
            have hM1 : Mx b0 P'[t]? (P'.drop (t + 1)) Lm0 := hM0
            have HGM := Lib.hid (show ∀ p ∈ Lm0, wr.heap[p.1]? = some p.2 from fun p hp => hO.get p (by simp [hLm0 p hp]))
            have HLF := Lib.hid (mxLeft_of hM1 HGM.out)
            have HSg := Lib.hid hSg
            clear hgb hSg hM0 hLm0
            by_cases htl : t < P'.length
            · obtain ⟨x, hx⟩ : ∃ x, P'[t]? = some x := ⟨_, List.getElem?_eq_getElem htl⟩
              rw [hx] at hM1 HLF
              have HU := Lib.hid (unlock_step HINP.out HNP.out hx)
              obtain ⟨Lm, Rr, hsp, hM, _, hback⟩ := hK.mutex (B := w.heap.size) (w0 := w) false
              have hM2 : Mx b0 P'[t]? (P'.drop (t + 1)) Lm := hM
              rw [hx] at hM2
              have HO1 := Lib.hid (hsp _ (Lg ++ ((bx, gobjW bc b0 b1) :: La)) (hO.shuf [Lg, [_], Lk, La] [2, 0, 1, 3] rfl rfl))
              have HB := Lib.hid hback
              obtain ⟨ws, hws⟩ : ∃ ws, ((P'[t + 1]?).toList.map fun y => (⟨y, 0, 0, 0⟩ : Wk)) = ws := ⟨_, rfl⟩
              rw [hws] at HU
              have hnw : gl ++ ws.map Wk.who = P'.take (t + 1 + 1) := by
                rw [← hgl, ← hws, List.take_add_one (i := t + 1)]
                congr 1
                cases P'[t + 1]? <;> rfl
              have HNW := Lib.hid hnw
              have hwl : ws.length ≤ 1 := by rw [← hws]; cases P'[t + 1]? <;> simp
              clear hO hx hsp hback hM hws hnw hK
              go_wp2_with (first | (go_at_call 19; refine (owner_any b0 (some x) (P'.drop (t + 1)) Lm0 _ hM1 HGM.out).mono ?_; rintro e w' ⟨rfl, rfl⟩; dsimp only [ownV, Option.getD_some, Option.isSome_some]) | fail)
              refine (unlock_any w.heap.size w b0 (some x) (P'.drop (t + 1)) Lm _ x _ hM2 HO1.out).mono ?_
              rw [HU.out]
              rintro e w3 ⟨wk, Lw, Lm', rfl, hSk, hM3, hO3⟩
              dsimp only at hSk hM3 ⊢
              obtain ⟨ak, ck, rfl, _, _⟩ := hSk.form
              obtain ⟨L2, hK2, hb2⟩ := HB.out _ _ Lm' hM3
              have hK3 : Kw bc b0 b1 (TSt P' R (t + 1)) L2 := hK2
              have hO4 := hb2 w3 (Lw ++ (Lg ++ ((bx, gobjW bc b0 b1) :: La))) (hO3.shuf [Lm', Lw, Rr, Lg ++ ((bx, gobjW bc b0 b1) :: La)] [0, 2, 1, 3] rfl rfl)
              have HO4 := Lib.hid ((hO4.junk (outO true 0 0 0 (.slice ak ws.length ck))).shuf [L2, Lw, Lg, [_], La] [2, 1, 3, 0, 4] rfl rfl)
              have HSk := Lib.hid hSk
              have HK3 := Lib.hid hK3
              clear hO3 hO4 hb2 hK2 hK3 hSk hM3 HB HO1 hM1 hM2 HGM HU g0 g1 g2 gll
              go_wp2
              go_loopw [16, 182] (fun v i wr => T3Rel w.heap.size w gl ws (Lw ++ ((bx, gobjW bc b0 b1) :: (L2 ++ La))) v i wr) (fun _ i _ => ws.length - (intOf i).toNat)
              case atStart => exact ⟨0, Lg, Nat.zero_le _, rfl, by simpa using HSg.out, HO4.out⟩
              case round =>
                clear HO4 HSg
                obtain ⟨j, Lg', hj, rfl, hSg, hO⟩ := hrel
                obtain ⟨ga, gc, rfl, hgc, hgm⟩ := hSg.form
                by_cases hlj : j < ws.length
                · obtain ⟨g, off, rfl, hgl, k0, k1, k2, k3⟩ := wakes_at HSk.out _ (fun p hp => hO.get p (by simp [hp])) j hlj
                  have hji : (j : Int) < ws.length := by omega
                  obtain ⟨⟨kw, kt, kn, kf⟩, hkx⟩ : ∃ x, ws[j] = x := ⟨_, rfl⟩
                  have hnx : gl ++ (ws.take (j + 1)).map Wk.who = (gl ++ (ws.take j).map Wk.who) ++ [kw] := by
                    rw [List.take_succ_eq_append_getElem hlj, hkx]; simp
                  rw [hkx] at k0 k1 k2 k3
                  dsimp only at k0 k1 k2 k3
                  have HNX := Lib.hid hnx
                  have HSg := Lib.hid hSg
                  have HO := Lib.hid hO
                  have hlen : (gl ++ (ws.take j).map Wk.who).length ≤ 100000 := by simp; omega
                  clear hkx hnx hSg hO
                  generalize gl ++ (ws.take j).map Wk.who = gj at *
                  go_wp2_with (at_builtin; refine wpList_append_sl rfl (.tmp 186) (.tmp 189) 26 rfl _ _ _ Try.underlying26 hi hz0 hz1 hz2 rfl I_len I_one rfl HSg.out (F := Lw ++ ((bx, gobjW bc b0 b1) :: (L2 ++ La))) (by exact (HO.out.junk _).junk _) ⟨_, 0, none⟩ [kw] 1 1 rfl rfl (news_one (x := .int .i64 kw) (by simp [World.cell?_alloc_at])) (by decide) (by unfold maxLen; omega) (by omega) ?_)
                  intro g' off' cap' w5 L5 hS5 hO5 _ _
                  clear k0 k1 k2 k3 HO
                  go_wp2
                  exact ⟨⟨j + 1, L5, by omega, by go_num, by rw [HNX.out]; simpa using hS5, hO5⟩, by simp [intOf]; omega⟩
                · obtain rfl : j = ws.length := by omega
                  rw [List.take_length, HNW.out] at hSg
                  rw [List.take_length, HNW.out]
                  have HSg := Lib.hid hSg
                  clear hSg
                  go_wp2
                  refine ⟨⟨t + 1, _, Lg', htl, HSg.out, ⟨L2, rfl, HK3.out⟩, (hO.shuf [Lg', Lw, (bx, gobjW bc b0 b1) :: (L2 ++ La)] [1, 0, 2] rfl rfl).right⟩, ?_⟩
                  obtain ⟨Lm2, hM4, hLm2⟩ := HK3.out.mem false
                  have hM5 : Mx b0 P'[t + 1]? (P'.drop (t + 1 + 1)) Lm2 := hM4
                  have h6 := mxLeft_of hM5 (fun p hp => hO.get p (by simp [hLm2 p hp]))
                  rw [h6, HLF.out]
                  cases h7 : P'[t + 1]? with
                  | none => simp [mxN]
                  | some y =>
                    have := (List.getElem?_eq_some_iff.1 h7).1
                    simp [mxN]
                    omega
            · obtain rfl : t = P'.length := by omega
              have hgl2 : gl = P' := by rw [← hgl]; exact List.take_of_length_le (by omega)
              subst hgl2
              rw [List.getElem?_eq_none (Nat.le_refl _)] at hM1
              have HO := Lib.hid hO
              clear hO
              go_wp2_with (first | (go_at_call 19; refine (owner_any b0 none (gl.drop (gl.length + 1)) Lm0 _ hM1 HGM.out).mono ?_; rintro e w' ⟨rfl, rfl⟩; dsimp only [ownV, Option.getD_none, Option.isSome_none]) | fail)
              have hK0 : Kw bc b0 b1 (TSt gl R gl.length) Lk := hK
              have hq : (TSt gl R gl.length).q.map Prod.fst = R := by simp [TSt, Function.comp_def]
              have HQ := Lib.hid hq
              have HKW := Lib.hid hK0
              have HPR := Lib.hid hPR
              clear hq hK0 hK hM1 HGM HLF
              have hle : (gl.length : Int) ≤ P.length := by rw [← HPR.out]; simp; omega
              have hRl : R.length ≤ 100 := by rw [← HPR.out] at hpl2; simp at hpl2; omega
              have hOd := HO.out.drew
              have HOD := Lib.hid hOd
              rcases HS.out with ⟨h1, hP0, _⟩ | ⟨pg, poff, pcap, cur, h1, _⟩
              · have hg0 : gl = [] := by have h := HPR.out; rw [hP0] at h; exact (List.append_eq_nil_iff.1 h).1
                have hR0 : R = [] := by have h := HPR.out; rw [hP0] at h; exact (List.append_eq_nil_iff.1 h).2
                subst hg0 hR0
                have hPl : P.length = 0 := by rw [hP0]; rfl
                rw [hPl] at h1 ⊢
                simp only [Value.slice.injEq, true_and] at h1
                obtain ⟨rfl, rfl⟩ := h1
                have HRD0 := Lib.hid (show ∀ W, Rd W I (.slice none 0 0) [] from fun W => .inl ⟨rfl, none, 0, rfl⟩)
                have HSg0 : Hid (Sl 3 1 I (.slice ga 0 gc) [] Lg) := Lib.hid HSg.out
                clear hPl hP0 hOd hle
                go_region_held3 (fun w' => w'.cell? ⟨bx, 0, none⟩ = some (.pointer (some ⟨bc, 0, none⟩)))
                  (first
                    | with_reducible exact k0
                    | (go_keep; done)
                    | fail "no keep")
                  (first
                    | (go_at_call 20; (with_reducible refine (equal20_same w.heap.size w _ [] _ _ _ (Sl_rd hSw0 (fun p hp => hOw.get p (List.mem_append_left _ hp))) (HRD0.out _) hOw (by decide)).mono ?_); rintro e w7 ⟨rfl, hO7⟩; have k0 : w7.cell? ⟨bx, 0, none⟩ = some (.pointer (some ⟨bc, 0, none⟩)) := (gob3 (hO7.get (bx, gobjW bc b0 b1) (List.mem_append_right _ (List.mem_append_right _ (List.mem_append_left _ List.mem_cons_self))))).1)
                    | (go_at_call 37; (with_reducible refine (kwaits37 w.heap.size w bc b0 b1 _ Lk _ _ HKW.out (fun p hp => List.mem_append_right _ (List.mem_append_left _ (List.mem_cons_of_mem _ hp))) hOe).mono ?_); rw [HQ.out]; rintro e w6 ⟨vw, Lw, rfl, hSw, hOw⟩; obtain ⟨sw, cw, rfl, _, _⟩ := hSw.form; have hSw0 : Sl 3 1 I (.slice sw 0 cw) [] Lw := hSw; have k0 : w6.cell? ⟨bx, 0, none⟩ = some (.pointer (some ⟨bc, 0, none⟩)) := (gob3 (hOw.get (bx, gobjW bc b0 b1) (List.mem_append_right _ (List.mem_append_right _ (List.mem_append_left _ List.mem_cons_self))))).1)
                    | (go_at_call 20; (with_reducible refine (equal20_same w.heap.size w _ [] _ _ _ (Sl_rd HSg0.out (fun p hp => HOD.out.get p (List.mem_append_left _ hp))) (HRD0.out _) HOD.out (by decide)).mono ?_); rintro e w5 ⟨rfl, hOe⟩; have k0 : w5.cell? ⟨bx, 0, none⟩ = some (.pointer (some ⟨bc, 0, none⟩)) := (gob3 (hOe.get (bx, gobjW bc b0 b1) (List.mem_append_right _ (List.mem_append_left _ List.mem_cons_self)))).1)
                    | fail "no arm")
                all_goals
                  have HBW := Lib.hid hO7.below
                  clear hO7 hOe hOw hSw
                  go_wp2
                  go_ret
                  exact ⟨rfl, HBW.out⟩
              · simp only [Value.slice.injEq, true_and] at h1
                obtain ⟨rfl, rfl⟩ := h1
                have ht := HS.out.take I_len gl.length (by omega)
                rw [show P.take gl.length = gl from by rw [← HPR.out]; exact List.take_left] at ht
                obtain ⟨off', hoff, hd⟩ := HS.out.dropIf I_len gl.length (by omega) (pc = gl.length) id
                rw [show P.drop gl.length = R from by rw [← HPR.out]; exact List.drop_left] at hd
                have hRlen : P.length - gl.length = R.length := by rw [← HPR.out]; simp
                have hcase : (pc = gl.length ∧ off' = poff) ∨ (¬ pc = gl.length ∧ off' = poff + gl.length) := by
                  by_cases hc : pc = gl.length
                  · rw [if_pos hc] at hoff; simp at hoff; exact .inl ⟨hc, hoff.symm⟩
                  · rw [if_neg hc] at hoff; simp at hoff; exact .inr ⟨hc, hoff.symm⟩
                have HT := Lib.hid ht
                rw [hRlen] at hd
                have HD := Lib.hid hd
                have hb0 : (0 : Int) ≤ gl.length := by omega
                have hb1 : (gl.length : Int) ≤ pc := by omega
                have hb2 : (gl.length : Int) ≤ P.length := hle
                have hb3 : gl.length ≤ pc := by omega
                have hb4 : gl.length ≤ P.length := by omega
                have hb5 : (P.length : Int) ≤ pc := by omega
                clear ht hd hoff hOd hle
                rcases hcase with ⟨rfl, rfl⟩ | ⟨hpc2, rfl⟩
                all_goals
                  first
                    | have HE := Lib.hid (show Sl 3 1 I (.slice (some ⟨pg, off', none⟩) R.length 0) R La by simpa using HD.out)
                    | have HE := HD
                  go_region_held3 (fun w' => w'.cell? ⟨bx, 0, none⟩ = some (.pointer (some ⟨bc, 0, none⟩)))
                    (first
                      | with_reducible exact k0
                      | (go_keep; done)
                      | fail "no keep")
                    (first
                      | (go_at_call 20; (with_reducible refine (equal20_same w.heap.size w _ R _ _ _ (Sl_rd hSw (fun p hp => hOw.get p (List.mem_append_left _ hp))) (Sl_rd HE.out (fun p hp => hOw.get p (List.mem_append_right _ (List.mem_append_right _ (List.mem_append_right _ hp))))) hOw (by omega)).mono ?_); rintro e w7 ⟨rfl, hO7⟩; have k0 : w7.cell? ⟨bx, 0, none⟩ = some (.pointer (some ⟨bc, 0, none⟩)) := (gob3 (hO7.get (bx, gobjW bc b0 b1) (List.mem_append_right _ (List.mem_append_right _ (List.mem_append_left _ List.mem_cons_self))))).1)
                      | (go_at_call 37; (with_reducible refine (kwaits37 w.heap.size w bc b0 b1 _ Lk _ _ HKW.out (fun p hp => List.mem_append_right _ (List.mem_append_left _ (List.mem_cons_of_mem _ hp))) hOe).mono ?_); rw [HQ.out]; rintro e w6 ⟨vw, Lw, rfl, hSw, hOw⟩; obtain ⟨sw, cw, rfl, _, _⟩ := hSw.form; have k0 : w6.cell? ⟨bx, 0, none⟩ = some (.pointer (some ⟨bc, 0, none⟩)) := (gob3 (hOw.get (bx, gobjW bc b0 b1) (List.mem_append_right _ (List.mem_append_right _ (List.mem_append_left _ List.mem_cons_self))))).1)
                      | (go_at_call 20; (with_reducible refine (equal20_same w.heap.size w _ gl _ _ _ (Sl_rd HSg.out (fun p hp => HOD.out.get p (List.mem_append_left _ hp))) (Sl_rd HT.out (fun p hp => HOD.out.get p (List.mem_append_right _ (List.mem_append_right _ hp)))) HOD.out (by omega)).mono ?_); rintro e w5 ⟨rfl, hOe⟩; have k0 : w5.cell? ⟨bx, 0, none⟩ = some (.pointer (some ⟨bc, 0, none⟩)) := (gob3 (hOe.get (bx, gobjW bc b0 b1) (List.mem_append_right _ (List.mem_append_left _ List.mem_cons_self)))).1)
                      | fail "no arm")
                  all_goals
                    have HBW := Lib.hid hO7.below
                    clear hO7 hOe hOw hSw
                    go_wp2
                    go_ret
                    exact ⟨rfl, HBW.out⟩

end Go.Proofs.Ytidnkienkdlmkaa
