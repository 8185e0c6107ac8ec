/-
  SpecOne's walk, a register. No condition.
-/
import Derived.Test.YtojcojoleodjmaaSpOneH
namespace Go.Proofs.Ytojcojoleodjmaa
open Go.RowKit Go.Shelf Go.Sh
attribute [local go_sem ↓] Go.wp_at_zero Go.wp_at_succ

set_option maxRecDepth 100000 in
set_option maxHeartbeats 8000000 in
theorem one10r (os gs : List Int) (ao ao2 : Option Addr) (cp cp2 : Nat) (W : World) (hR : Rd W U8 (.slice ao os.length cp) os) (hok : ∀ x ∈ os, (Lit.int .u8 x).wf = true) (hm : os.length ≤ maxLen) (hcap : os.length ≤ cp)
    (hG : Rd W U8 (.slice ao2 gs.length cp2) gs) (hokg : ∀ x ∈ gs, (Lit.int .u8 x).wf = true) (hmg : gs.length ≤ maxLen) :
    Calls Try.prog 10 #[.bool false, .slice ao os.length cp, .slice ao2 gs.length cp2] W (AllTrue W) := by
  unfold maxLen at hm hmg
  obtain ⟨i8, hi8, hz80, hz81, hz82⟩ := info_parts Try.info80
  obtain ⟨i3, hi3, hz30, hz31, hz32⟩ := info_parts Try.info3
  obtain ⟨i7, hi7, hz70, hz71, hz72⟩ := info_parts Try.info77
  have HAW := Lib.hid (fun w (hO : Sh.Own W.heap.size W w []) => awake30 W.heap.size W [] w hO)
  have HO := Lib.hid (Sh.Own.start W)
  obtain ⟨_, _, he, r1⟩ := rd_u8 hR
  simp only [Value.slice.injEq, true_and] at he
  obtain ⟨rfl, rfl⟩ := he
  obtain ⟨_, _, he, r2⟩ := rd_u8 hG
  simp only [Value.slice.injEq, true_and] at he
  obtain ⟨rfl, rfl⟩ := he
  have R1 := Lib.hid r1
  have R2 := Lib.hid r2
  have OK1 := Lib.hid hok
  have OK2 := Lib.hid hokg
  obtain ⟨N, hN1, hN2, hmin⟩ : ∃ N : Nat, N ≤ os.length ∧ N ≤ 8 ∧ (if (8 : Int) < (os.length : Int) then 8 else (os.length : Int)) = (N : Int) := ⟨min os.length 8, by omega, by omega, by split <;> omega⟩
  have hN0 : (0 : Int) ≤ N := by omega
  have hN3 : (N : Int) ≤ cp := by omega
  clear hR hG r1 r2 hok hokg
  go_enter Try.func10, Try.ntmps10
  go_wp2_with (go_at_call 30; (with_reducible refine (HAW.out _ HO.out).mono ?_); rintro e w1 ⟨rfl, hO1⟩)
  clear hmin
  have HO1 := Lib.hid (hO1.allocAt (ob2 ⟨4, 0⟩) (n := w1.heap.size) rfl)
  go_loopw [8, 9, 10, 11, 29] (fun s8 s9 s10 s11 s29 wr => OneRel W.heap.size W 2 N w1.heap.size s8 s9 s10 s11 s29 wr) (fun _ _ _ _ s29 _ => N - (intOf s29).toNat)
  case atStart => exact ⟨0, 0, 0, [], [], 1, ⟨4, 0⟩, none, none, none, 0, 0, 0, [], [], [], Nat.zero_le _, rfl, rfl, rfl, rfl, rfl, Nat.le_refl _, Nat.le_refl _, by omega, Lib.hid ⟨rfl, rfl, hist_nil 2⟩, Lib.hid Sl.nil, Lib.hid Sl.nil, Lib.hid Sl.nil, HO1⟩
  case round =>
    clear HO1 hO1 HO
    obtain ⟨k, n, m, xs, q, now, v, al, aq, oo, cl, co, cq, Ll, Lo, Lq, hk, rfl, rfl, rfl, rfl, rfl, hnk, hmk, hnow, HH, HSl, HSo, HSq, HX⟩ := hrel
    by_cases hlt : k < N
    · obtain ⟨g1, o1, rfl, l1, e1⟩ := R1.out k (by omega)
      obtain ⟨a, hae⟩ : ∃ a, os[k]'(by omega) = a := ⟨_, rfl⟩
      rw [hae] at e1
      obtain ⟨ha1, ha2⟩ := u8_bounds (OK1.out a (by rw [← hae]; exact List.getElem_mem _))
      have hb := HX.out.below
      have f1 := (hb.cell (p := ⟨g1, o1 + k, none⟩) l1).trans e1
      have ik : (k : Int) < N := by omega
      have ik0 : (0 : Int) ≤ k := by omega
      obtain ⟨r3, hr3⟩ : ∃ r, a % 3 = r := ⟨_, rfl⟩
      obtain ⟨d8, hd8⟩ : ∃ r, a / 8 = r := ⟨_, rfl⟩
      have h3 : 0 ≤ r3 ∧ r3 ≤ 2 := by omega
      have h8 : 0 ≤ d8 ∧ d8 ≤ 31 := by omega
      have HXC := Lib.hid ((HX.out.junk (.cells #[.int .i64 1, .int .i64 d8] 77)).allocAt (ob6 ⟨r3, 1, ⟨1, d8⟩, now, now + 1⟩) (n := wr.heap.size + 1) (by simp))
      by_cases hev : a % 2 = 0
      · clear e1 hae hb
        have HQ2 := HSq
        have HQ2L := Lib.hid HH.out.2.1
        go_upto_region 18 with (go_at_call 42; refine (num42 d8 _).mono ?_; rintro e w' ⟨rfl, rfl⟩)
        obtain ⟨Wd, hWd⟩ : ∃ Wd, (wr.alloc (Obj.cells #[.int .i64 1, .int .i64 d8] 77)).alloc (Obj.cells #[.int .i64 r3, .int .i64 1, .int .i64 1, .int .i64 d8, .int .i64 now, .int .i64 (now + 1)] 80) = Wd := ⟨_, rfl⟩
        rw [hWd] at HXC
        rw [hWd]
        clear hWd
        have cf := free_of_get HXC.out.head
        have cl0 := lt_of_get HXC.out.head
        obtain ⟨b0, b1, b2, b3, b4, b5⟩ := cells6 HXC.out.head
        simp only [Nat.zero_add] at b1 b2 b3 b4 b5
        have vf := free_of_get HXC.out.tail.head
        have vl := lt_of_get HXC.out.tail.head
        have hne : w1.heap.size ≠ wr.heap.size + 1 := fun h => HXC.out.notMem (by rw [← h]; simp)
        have hne2 : wr.heap.size + 1 ≠ w1.heap.size := fun h => hne h.symm
        have HC := Lib.hid (own_vset HXC.out d8)
        have v0 := cell_of_get HXC.out.tail.head 0
        have v1 := cell_of_get HXC.out.tail.head 1
        go_upto_region 22 with fail
        obtain ⟨Wc, hWc⟩ : ∃ Wc, (Wd.setCell ⟨w1.heap.size, 0, none⟩ (.int .i64 1)).setCell ⟨w1.heap.size, 1, none⟩ (.int .i64 d8) = Wc := ⟨_, rfl⟩
        rw [hWc] at HC
        rw [hWc]
        clear hWc cf cl0 b0 b1 b2 b3 b4 b5 vf vl hne hne2 v0 v1
        obtain ⟨c0, c1, c2, c3, c4, c5⟩ := cells6 HC.out.head
        simp only [Nat.zero_add] at c1 c2 c3 c4 c5
        have cl0 := lt_of_get HC.out.head
        have HW := Lib.hid (show HistOk 2 (xs ++ [(⟨r3, 1, ⟨1, d8⟩, now, now + 1⟩ : C6)]) (now + 2) (if (2 : Int) = 2 then [(⟨1, d8⟩ : V2)] else q) from hist_push HH.out.2.2 (.inl rfl) rfl rfl (with_rput) (by omega))
        have HA := Lib.hid (one_a (HC.out.allocAt (ob6 ⟨r3, 1, ⟨1, d8⟩, now, now + 1⟩) (n := Wc.heap.size) rfl))
        have HNB := Lib.hid (news_blk6 (C := #[.int .i64 (⟨r3, 1, ⟨1, d8⟩, now, now + 1⟩ : C6).who, .int .i64 (⟨r3, 1, ⟨1, d8⟩, now, now + 1⟩ : C6).op, .int .i64 (⟨r3, 1, ⟨1, d8⟩, now, now + 1⟩ : C6).v.t, .int .i64 (⟨r3, 1, ⟨1, d8⟩, now, now + 1⟩ : C6).v.n, .int .i64 (⟨r3, 1, ⟨1, d8⟩, now, now + 1⟩ : C6).fro, .int .i64 (⟨r3, 1, ⟨1, d8⟩, now, now + 1⟩ : C6).til]) (t := 80) (fr := (0, 0)) (HC.out.allocAt (ob6 ⟨r3, 1, ⟨1, d8⟩, now, now + 1⟩) (n := Wc.heap.size) rfl).head)
        have HLn := Lib.hid HH.out.1
        have HLr := Lib.hid (rng_len n)
        go_upto_region 24 with (first
          | (at_builtin; refine wpList_append_sl rfl (.tmp 82) (.tmp 84) 59 rfl _ _ _ Try.underlying59 hi8 hz80 hz81 hz82 rfl CC_len CC_one rfl HSl.out (by exact HA.out) ⟨Wc.heap.size, 0, none⟩ [(⟨r3, 1, ⟨1, d8⟩, now, now + 1⟩ : C6)] 1 1 rfl rfl (by exact HNB.out) (by decide) (by rw [HLn.out]; unfold maxLen; omega) (by rw [HLn.out]; omega) ?_; intro g5 off5 cap5 w5 L5 hS5 hO5 _ _; rw [HLn.out] at hS5 ⊢; have HS5 := Lib.hid hS5; have HO5 := Lib.hid (one_b (hO5.allocAt (Obj.cells #[.int .i64 n] 3 (0, 0)) (n := w5.heap.size) rfl)); have HN5 := Lib.hid (news_blk6 (C := #[.int .i64 n]) (t := 3) (fr := (0, 0)) (hO5.allocAt (Obj.cells #[.int .i64 n] 3 (0, 0)) (n := w5.heap.size) rfl).head); clear hS5 hO5 c0 c1 c2 c3 c4 c5 cl0)
          | (at_builtin; refine wpList_append_sl rfl (.tmp 86) (.tmp 89) 28 rfl _ _ _ Try.underlying28 hi3 hz30 hz31 hz32 rfl I_len I_one rfl HSo.out (by exact HO5.out) ⟨w5.heap.size, 0, none⟩ [(n : Int)] 1 1 rfl rfl (by exact HN5.out) (by decide) (by rw [HLr.out]; unfold maxLen; omega) (by rw [HLr.out]; omega) ?_; intro g6 off6 cap6 w6 L6 hS6 hO6 _ _; rw [HLr.out] at hS6 ⊢; rw [← rng_succ] at hS6; have HS6 := Lib.hid hS6; have HO6 := Lib.hid (one_c hO6); clear hS6 hO6))
        by_cases hg : k < gs.length
        · have bg : decide ((k : Int) < gs.length) = true := by simp; omega
          have bg2 : decide (k < gs.length) = true := by simp; omega
          have ikg : (k : Int) < gs.length := by omega
          obtain ⟨g2, o2, he2, l2, e2⟩ := R2.out k hg
          subst he2
          obtain ⟨b, hbe⟩ : ∃ b, gs[k] = b := ⟨_, rfl⟩
          rw [hbe] at e2
          obtain ⟨hb1, hb2⟩ := u8_bounds (OK2.out b (by rw [← hbe]; exact List.getElem_mem _))
          have f2 := (HO6.out.below.cell (p := ⟨g2, o2 + k, none⟩) l2).trans e2
          have gl2 : g2 < w6.heap.size := World.block_lt_of_cell? _ _ f2
          have HW2 := Lib.hid (hist_later HW.out (show now + 2 ≤ now + 2 + b by omega))
          clear e2 hbe
          go_wp2
          exact ⟨⟨k + 1, n + 1, m, xs ++ [(⟨r3, 1, ⟨1, d8⟩, now, now + 1⟩ : C6)], q, now + 2 + b, (⟨1, d8⟩ : V2), _, _, _, _, _, _, L5, L6, _, by omega, by go_num, rfl, rfl, rfl, rfl, by omega, by omega, by omega, Lib.hid ⟨by rw [List.length_append, HLn.out]; rfl, HQ2L.out, HW2.out⟩, HS5, HS6, HQ2, HO6⟩, by simp [intOf]; omega⟩
        · have bg : decide ((k : Int) < gs.length) = false := by simp; omega
          have bg2 : decide (k < gs.length) = false := by simp; omega
          go_wp2
          exact ⟨⟨k + 1, n + 1, m, xs ++ [(⟨r3, 1, ⟨1, d8⟩, now, now + 1⟩ : C6)], q, now + 2, (⟨1, d8⟩ : V2), _, _, _, _, _, _, L5, L6, _, by omega, by go_num, rfl, rfl, rfl, rfl, by omega, by omega, by omega, Lib.hid ⟨by rw [List.length_append, HLn.out]; rfl, HQ2L.out, HW.out⟩, HS5, HS6, HQ2, HO6⟩, by simp [intOf]; omega⟩
      · have hod : a % 2 = 1 := by omega
        clear e1 hae hb hev
        have HQ2 := HSq
        have HQ2L := Lib.hid HH.out.2.1
        go_upto_region 14 with (go_at_call 42; refine (num42 d8 _).mono ?_; rintro e w' ⟨rfl, rfl⟩)
        obtain ⟨Wd, hWd⟩ : ∃ Wd, (wr.alloc (Obj.cells #[.int .i64 1, .int .i64 d8] 77)).alloc (Obj.cells #[.int .i64 r3, .int .i64 1, .int .i64 1, .int .i64 d8, .int .i64 now, .int .i64 (now + 1)] 80) = Wd := ⟨_, rfl⟩
        rw [hWd] at HXC
        rw [hWd]
        clear hWd
        have cf := free_of_get HXC.out.head
        have cl0 := lt_of_get HXC.out.head
        obtain ⟨b0, b1, b2, b3, b4, b5⟩ := cells6 HXC.out.head
        simp only [Nat.zero_add] at b1 b2 b3 b4 b5
        have v0 := cell_of_get HXC.out.tail.head 0
        have v1 := cell_of_get HXC.out.tail.head 1
        have vl := lt_of_get HXC.out.tail.head
        have hne : w1.heap.size ≠ wr.heap.size + 1 := fun h => HXC.out.notMem (by rw [← h]; simp)
        have hne2 : wr.heap.size + 1 ≠ w1.heap.size := fun h => hne h.symm
        have HC := Lib.hid (own_take HXC.out v)
        go_region
        go_upto_region 22 with fail
        obtain ⟨Wc, hWc⟩ : ∃ Wc, (((Wd.setCell ⟨wr.heap.size + 1, 1, none⟩ (.int .i64 2)).setCell ⟨wr.heap.size + 1, 2, none⟩ (.int .i64 v.t)).setCell ⟨wr.heap.size + 1, 3, none⟩ (.int .i64 v.n)).drew = Wc := ⟨_, rfl⟩
        rw [hWc] at HC
        rw [hWc]
        clear hWc cf cl0 b0 b1 b2 b3 b4 b5
        clear v0 v1 vl hne hne2
        obtain ⟨c0, c1, c2, c3, c4, c5⟩ := cells6 HC.out.head
        simp only [Nat.zero_add] at c1 c2 c3 c4 c5
        have cl0 := lt_of_get HC.out.head
        have HW := Lib.hid (show HistOk 2 (xs ++ [(⟨r3, 2, v, now, now + 1⟩ : C6)]) (now + 2) (if (2 : Int) = 2 then [v] else q) from hist_push HH.out.2.2 (.inr rfl) rfl rfl (with_rtake hnow.1) (by omega))
        have HA := Lib.hid (one_a (HC.out.allocAt (ob6 ⟨r3, 2, v, now, now + 1⟩) (n := Wc.heap.size) rfl))
        have HNB := Lib.hid (news_blk6 (C := #[.int .i64 (⟨r3, 2, v, now, now + 1⟩ : C6).who, .int .i64 (⟨r3, 2, v, now, now + 1⟩ : C6).op, .int .i64 (⟨r3, 2, v, now, now + 1⟩ : C6).v.t, .int .i64 (⟨r3, 2, v, now, now + 1⟩ : C6).v.n, .int .i64 (⟨r3, 2, v, now, now + 1⟩ : C6).fro, .int .i64 (⟨r3, 2, v, now, now + 1⟩ : C6).til]) (t := 80) (fr := (0, 0)) (HC.out.allocAt (ob6 ⟨r3, 2, v, now, now + 1⟩) (n := Wc.heap.size) rfl).head)
        have HLn := Lib.hid HH.out.1
        have HLr := Lib.hid (rng_len n)
        go_upto_region 24 with (first
          | (at_builtin; refine wpList_append_sl rfl (.tmp 82) (.tmp 84) 59 rfl _ _ _ Try.underlying59 hi8 hz80 hz81 hz82 rfl CC_len CC_one rfl HSl.out (by exact HA.out) ⟨Wc.heap.size, 0, none⟩ [(⟨r3, 2, v, now, now + 1⟩ : C6)] 1 1 rfl rfl (by exact HNB.out) (by decide) (by rw [HLn.out]; unfold maxLen; omega) (by rw [HLn.out]; omega) ?_; intro g5 off5 cap5 w5 L5 hS5 hO5 _ _; rw [HLn.out] at hS5 ⊢; have HS5 := Lib.hid hS5; have HO5 := Lib.hid (one_b (hO5.allocAt (Obj.cells #[.int .i64 n] 3 (0, 0)) (n := w5.heap.size) rfl)); have HN5 := Lib.hid (news_blk6 (C := #[.int .i64 n]) (t := 3) (fr := (0, 0)) (hO5.allocAt (Obj.cells #[.int .i64 n] 3 (0, 0)) (n := w5.heap.size) rfl).head); clear hS5 hO5 c0 c1 c2 c3 c4 c5 cl0)
          | (at_builtin; refine wpList_append_sl rfl (.tmp 86) (.tmp 89) 28 rfl _ _ _ Try.underlying28 hi3 hz30 hz31 hz32 rfl I_len I_one rfl HSo.out (by exact HO5.out) ⟨w5.heap.size, 0, none⟩ [(n : Int)] 1 1 rfl rfl (by exact HN5.out) (by decide) (by rw [HLr.out]; unfold maxLen; omega) (by rw [HLr.out]; omega) ?_; intro g6 off6 cap6 w6 L6 hS6 hO6 _ _; rw [HLr.out] at hS6 ⊢; rw [← rng_succ] at hS6; have HS6 := Lib.hid hS6; have HO6 := Lib.hid (one_c hO6); clear hS6 hO6))
        by_cases hg : k < gs.length
        · have bg : decide ((k : Int) < gs.length) = true := by simp; omega
          have bg2 : decide (k < gs.length) = true := by simp; omega
          have ikg : (k : Int) < gs.length := by omega
          obtain ⟨g2, o2, he2, l2, e2⟩ := R2.out k hg
          subst he2
          obtain ⟨b, hbe⟩ : ∃ b, gs[k] = b := ⟨_, rfl⟩
          rw [hbe] at e2
          obtain ⟨hb1, hb2⟩ := u8_bounds (OK2.out b (by rw [← hbe]; exact List.getElem_mem _))
          have f2 := (HO6.out.below.cell (p := ⟨g2, o2 + k, none⟩) l2).trans e2
          have gl2 : g2 < w6.heap.size := World.block_lt_of_cell? _ _ f2
          have HW2 := Lib.hid (hist_later HW.out (show now + 2 ≤ now + 2 + b by omega))
          clear e2 hbe
          go_wp2
          exact ⟨⟨k + 1, n + 1, m, xs ++ [(⟨r3, 2, v, now, now + 1⟩ : C6)], q, now + 2 + b, v, _, _, _, _, _, _, L5, L6, _, by omega, by go_num, rfl, rfl, rfl, rfl, by omega, by omega, by omega, Lib.hid ⟨by rw [List.length_append, HLn.out]; rfl, HQ2L.out, HW2.out⟩, HS5, HS6, HQ2, HO6⟩, by simp [intOf]; omega⟩
        · have bg : decide ((k : Int) < gs.length) = false := by simp; omega
          have bg2 : decide (k < gs.length) = false := by simp; omega
          go_wp2
          exact ⟨⟨k + 1, n + 1, m, xs ++ [(⟨r3, 2, v, now, now + 1⟩ : C6)], q, now + 2, v, _, _, _, _, _, _, L5, L6, _, by omega, by go_num, rfl, rfl, rfl, rfl, by omega, by omega, by omega, Lib.hid ⟨by rw [List.length_append, HLn.out]; rfl, HQ2L.out, HW.out⟩, HS5, HS6, HQ2, HO6⟩, by simp [intOf]; omega⟩
    · obtain rfl : k = N := by omega
      obtain ⟨hlin, hhold⟩ := hist_law HH.out.2.2 (by decide) (by have := HH.out.1; omega)
      rw [HH.out.1] at hlin hhold
      have HL := Lib.hid (linear32 W.heap.size W ((w1.heap.size, ob2 v) :: (Ll ++ (Lo ++ (Lq ++ [])))) 2 al n cl xs wr (fun w' hw => sl_rd6 HSl.out (fun p hp => hw.get p (by simp [hp]))) HX.out (sl_le HSl.out) (by have := HH.out.1; omega))
      rw [hlin] at HL
      have HE := Lib.hid (fun w v' L' (hS : Sl 3 1 I v' (rng n) L') (hO : Sh.Own W.heap.size W w (L' ++ ((w1.heap.size, ob2 v) :: (Ll ++ (Lo ++ (Lq ++ [])))))) => equal20 W.heap.size W _ (rng n) (rng n) v' (.slice oo n co) w (sl_rd6 hS (fun p hp => hO.get p (by simp [hp]))) (sl_rd6 HSo.out (fun p hp => hO.get p (by simp [hp]))) hO (by rw [rng_len]; omega) (by rw [rng_len]; omega))
      rw [show decide (rng n = rng n) = true by simp] at HE
      have HB := Lib.hid (fun w L' (hO : Sh.Own W.heap.size W w (L' ++ ((w1.heap.size, ob2 v) :: (Ll ++ (Lo ++ (Lq ++ [])))))) => holds40 W.heap.size W _ 2 al n cl xs (rng n) (.slice oo n co) w (fun w' hw => sl_rd6 HSl.out (fun p hp => hw.right.get p (by simp [hp]))) (fun w' hw => sl_rd6 HSo.out (fun p hp => hw.right.get p (by simp [hp]))) hO (sl_le HSl.out) (by have := HH.out.1; omega) (by rw [rng_len]; omega))
      rw [hhold] at HB
      clear hlin hhold
      go_wp2_with (first
        | (go_at_call 32; (with_reducible refine HL.out.mono ?_); rintro e w2 ⟨v', L', rfl, hS, hO2⟩)
        | (go_at_call 20; (with_reducible refine (HE.out _ _ _ hS hO2).mono ?_); rintro e w3 ⟨rfl, hO3⟩)
        | (go_at_call 40; (with_reducible refine (HB.out _ _ hO3).mono ?_); rintro e w4 ⟨rfl, hO4⟩))
      go_ret
      exact ⟨rfl, hO4.below⟩

end Go.Proofs.Ytojcojoleodjmaa
