/-
  The walk of shuttlelaw19.RunLost: it returns true. No condition.
-/
import Derived.Test.YtojcojoleodjmaaRqLostP
namespace Go.Proofs.Ytojcojoleodjmaa
open Go.RowKit Go.Sh

/-- An act: what, worker, who. -/
structure A3 : Type where
  d : Int
  wk : Int
  who : Int
abbrev O3 (x : A3) : List Value := [.int .i64 x.d, .int .i64 x.wk, .int .i64 x.who]
theorem O3_len (x : A3) : (O3 x).length = 3 := rfl

theorem rd_ops3 {w : World} {v : Value} {xs : List A3} (hR : Rd w O3 v xs) : ∃ ao cap, v = .slice ao xs.length cap ∧ ∀ i (hi : i < xs.length), ∃ g off, ao = some ⟨g, off, none⟩ ∧ w.cell? ⟨g, off + i * 3, none⟩ = some (.int .i64 xs[i].d) ∧ w.cell? ⟨g, off + i * 3 + 1, none⟩ = some (.int .i64 xs[i].wk) ∧ w.cell? ⟨g, off + i * 3 + 2, none⟩ = some (.int .i64 xs[i].who) := by
  rcases hR with ⟨rfl, ao, cap, rfl⟩ | ⟨g, off, cap, rfl, hc⟩
  · exact ⟨ao, cap, rfl, fun j hj => by simp at hj⟩
  · refine ⟨_, cap, rfl, fun i hi => ⟨g, off, rfl, ?_, ?_, ?_⟩⟩
    · have := hc (i * 3 + 0) (.int .i64 xs[i].d) (by rw [flatMap_get O3_len xs i 0 (by omega), List.getElem?_eq_getElem hi]; rfl)
      simpa only [Nat.add_zero] using this
    · have := hc (i * 3 + 1) (.int .i64 xs[i].wk) (by rw [flatMap_get O3_len xs i 1 (by omega), List.getElem?_eq_getElem hi]; rfl)
      simpa only [← Nat.add_assoc] using this
    · have := hc (i * 3 + 2) (.int .i64 xs[i].who) (by rw [flatMap_get O3_len xs i 2 (by omega), List.getElem?_eq_getElem hi]; rfl)
      simpa only [← Nat.add_assoc] using this

def LostRel (B : Nat) (w0 : World) (b bm n N : Nat) (i : Value) (wr : World) : Prop :=
  ∃ (k : Nat) (ls : Nat → List Int) (st : Int) (ks : List Int) (L : List (Nat × Obj)) (o : Obj), k ≤ N ∧ i = .int .i64 k ∧ Qx b n ls st L ∧ MapIs (setK ks) o ∧ Own B w0 wr (L ++ [(bm, o)]) ∧ LI n ls ks

theorem zero4 (w : World) : (zeroValue 4).run Try.prog w = .ok (.bool false) w := by kernel_rfl

set_option maxRecDepth 100000 in
set_option maxHeartbeats 4000000 in
theorem lost4 (a : Int) (xs : List A3) (ao : Option Addr) (cap : Nat) (w : World) (ha : (Lit.int .u8 a).wf = true) (hR : Rd w O3 (.slice ao xs.length cap) xs) (_ : ∀ x ∈ xs, True) (hx : xs.length ≤ 9223372036854775807) (hcap : xs.length ≤ cap) :
    Calls Try.prog 4 #[.int .u8 a, .slice ao xs.length cap] w fun e w' => e = .returned (.bool true) ∧ Below w.heap.size w w' := by
  obtain ⟨ao', cap', he, r1⟩ := rd_ops3 hR
  simp only [Value.slice.injEq, true_and] at he
  obtain ⟨rfl, rfl⟩ := he
  have R1 := Lib.hid r1
  obtain ⟨ha0, ha1⟩ := u8_wf ha
  obtain ⟨N, hN1, hN2, hmin⟩ : ∃ N : Nat, N ≤ xs.length ∧ N ≤ 200 ∧ (if (200 : Int) < (xs.length : Int) then 200 else (xs.length : Int)) = (N : Int) := ⟨min xs.length 200, by omega, by omega, by split <;> omega⟩
  obtain ⟨n, hn⟩ : ∃ n : Nat, n = 1 + (a % 16).toNat := ⟨_, rfl⟩
  have hn1 : 1 ≤ n := by omega
  have hn16 : n ≤ 16 := by omega
  have hmod : 1 + a % 16 = (n : Int) := by omega
  clear hR ha hn r1
  have hO0 := (Own.start w).alloc (qobj n (fun _ => .slice none 0 0) 0)
  have HMIN := Lib.hid hmin
  go_enter Try.func4, Try.ntmps4
  go_wp2_with (go_at_call 13; refine (new_q n _ rfl _ hn1 (by omega)).mono ?_; rintro e w' ⟨rfl, rfl⟩)
  refine (awake14 _ w _ _ hO0).mono ?_
  rintro e w1 ⟨rfl, hO1⟩
  have hmk : ∀ w, (Instr.makeMap 30 none).run Try.prog w = .ok (.map (some w.heap.size)) (w.alloc (.map #[] 0)) := fun w => run_makeMap 30 w
  have hO2 := (hO1.alloc (.map #[] 0)).shuf [[_], [_]] [1, 0] rfl rfl
  generalize hbm : w1.heap.size = bm at hO2
  clear hO0 hO1
  go_wp2
  clear hmk hbm hmin
  have HX1 := Lib.hid (Qx.new (b := w.heap.size) hn1 hn16)
  go_loopw [40] (fun i wr => LostRel w.heap.size w w.heap.size bm n N i wr) (fun i _ => N - (intOf i).toNat)
  case atStart => exact ⟨0, _, _, [], _, _, Nat.zero_le _, rfl, HX1.out, MapIs.new, by simpa [cat] using hO2, by simp [cont], by simp, fun _ _ => rfl⟩
  case round =>
    obtain ⟨k, ls, st, ks, L, o, hk, rfl, hX, hMap, hO, hI⟩ := hrel
    clear hO2 HX1
    by_cases hlt : k < N
    · obtain ⟨g, off, rfl, e1, e2, e3⟩ := R1.out k (by omega)
      have hb1 := World.block_lt_of_cell? _ _ e1
      have c1 := (hO.below.cell (p := ⟨g, off + k * 3, none⟩) hb1).trans e1
      have c2 := (hO.below.cell (p := ⟨g, off + k * 3 + 1, none⟩) hb1).trans e2
      have c3 := (hO.below.cell (p := ⟨g, off + k * 3 + 2, none⟩) hb1).trans e3
      have hkx : k < xs.length := by omega
      clear e1 e2 e3
      obtain ⟨⟨d, wk, who⟩, hop⟩ : ∃ x, xs[k] = x := ⟨_, rfl⟩
      rw [hop] at c1 c2 c3
      clear hop
      dsimp only at c1 c2 c3
      have hO3 := (hO.alloc (.cells #[.int .i64 d, .int .i64 wk, .int .i64 who] 36)).shuf [[_], L, [_]] [1, 0, 2] rfl rfl
      have hO3 := hO3
      by_cases hd : d = 0
      · subst hd
        rcases hI.push wk who with ⟨ls', hr, hnk, hI'⟩ | ⟨ec, hr, hec⟩
        · have HR := Lib.hid hr
          clear hr
          go_wp2_with fail
          refine (push_q w.heap.size w w.heap.size n ls st L _ wk who _ hX hO3).mono ?_
          rw [HR.out]
          rintro e w2 ⟨rfl, L2, hX2, hO4⟩
          dsimp only at hX2 ⊢
          have hbx : w2.heap[wr.heap.size]? = some (Obj.cells #[.int .i64 0, .int .i64 wk, .int .i64 who] 36 (0, 0)) := hO4.get (wr.heap.size, Obj.cells #[.int .i64 0, .int .i64 wk, .int .i64 who] 36 (0, 0)) (by simp [cat])
          have oc2 : w2.cell? ⟨wr.heap.size, 2, none⟩ = some (.int .i64 who) := cell_of_get hbx 2
          have ol := lt_of_get hbx
          clear hbx
          have hO5 := hO4.shuf [L2, [_], [_]] [2, 0, 1] rfl rfl
          have hlook := run_lookup_kvs (P := Try.prog) (w := w2) (b := bm) Try.underlying30 Try.underlying3 (.bool false) zero4 hO5.head hMap who
          rw [kat_set, decide_eq_false hnk] at hlook
          obtain ⟨o', hrun, hm'⟩ := run_mapUpdate_kvs (P := Try.prog) (w := w2) (b := bm) Try.underlying30 Try.underlying3 hO5.head hMap who (.bool true)
          rw [kput_set, if_neg hnk] at hm'
          have hO6 := ((Own.setObj hO5 o').shuf [[_], L2, [_]] [2, 1, 0] rfl rfl).tail
          generalize hw4 : ({ w2 with heap := w2.heap.setIfInBounds bm o' } : World) = w4 at hrun hO6
          clear hw4 hO5 hO4 hO3 hO hX hMap hI
          obtain ⟨vs, Ls, hQ, rfl⟩ := hX2
          have hb := Lib.hid (q_get0 hO6)
          have hlen := run_len_kvs (P := Try.prog) (w := w4) (b := bm) Try.underlying30 (hO6.get (bm, o') (by simp [cat])) hm'
          rw [setK_len] at hlen
          have HL := Lib.hid (hI'.len hn16)
          have HM := Lib.hid hm'
          have HI := Lib.hid hI'
          have HO := Lib.hid hO6
          have HQ := Lib.hid hQ
          clear hm' hI' hO6 hQ
          go_wp2_with (go_at_call 18; refine (len_q w.heap.size n vs Ls ls' st _ HQ.out hb.out).mono ?_; rintro e w' ⟨rfl, rfl⟩; rw [HL.out])
          exact ⟨⟨k + 1, ls', st, (ks ++ [who]), _, o', by omega, by go_num, ⟨vs, Ls, HQ.out, rfl⟩, HM.out, HO.out, HI.out⟩, by simp [intOf]; omega⟩
        · have HR := Lib.hid hr
          clear hr
          go_wp2_with fail
          refine (push_q w.heap.size w w.heap.size n ls st L _ wk who _ hX hO3).mono ?_
          rw [HR.out]
          rintro e w2 ⟨rfl, L2, hX2, hO4⟩
          dsimp only at hX2 ⊢
          have hec' : (ec == 0) = false := by rcases hec with rfl | rfl <;> rfl
          have hO6 := (hO4.shuf [L2, [_], [_]] [1, 0, 2] rfl rfl).tail
          clear hO4
          clear hO3 hO hX hec HR
          obtain ⟨vs, Ls, hQ, rfl⟩ := hX2
          have hb := Lib.hid (q_get0 hO6)
          have hlen := run_len_kvs (P := Try.prog) (w := w2) (b := bm) Try.underlying30 (hO6.get (bm, o) (by simp [cat])) hMap
          rw [setK_len] at hlen
          have HL := Lib.hid (hI.len hn16)
          have HM := Lib.hid hMap
          have HI := Lib.hid hI
          have HO := Lib.hid hO6
          have HQ := Lib.hid hQ
          clear hMap hI hO6 hQ
          go_wp2_with (go_at_call 18; refine (len_q w.heap.size n vs Ls ls st _ HQ.out hb.out).mono ?_; rintro e w' ⟨rfl, rfl⟩; rw [HL.out])
          exact ⟨⟨k + 1, ls, st, ks, _, o, by omega, by go_num, ⟨vs, Ls, HQ.out, rfl⟩, HM.out, HO.out, HI.out⟩, by simp [intOf]; omega⟩
      · have hd0 : (d == 0) = false := by simpa using hd
        by_cases hd2 : d = 2
        · subst hd2
          clear hd hd0
          have hlk := run_lookup_kvs (P := Try.prog) (w := (wr.alloc (.cells #[.int .i64 2, .int .i64 wk, .int .i64 who] 36)).drew) (b := bm) Try.underlying30 Try.underlying3 (.bool false) zero4 ((hO3.drew.shuf [L, [_], [_]] [2, 0, 1] rfl rfl).head) hMap who
          rcases hI.drop who with ⟨hr, hnk⟩ | ⟨ls', hr, hnk, hI'⟩
          · have HR := Lib.hid hr
            rw [kat_set, decide_eq_false hnk] at hlk
            clear hr
            go_wp2_with fail
            go_region_law (go_simp; go_at_call 17; refine (drop_q w.heap.size w w.heap.size n ls st L _ who _ hX hO3.drew).mono ?_; rw [HR.out]; rintro e w2 ⟨rfl, L2, hX2, hO4⟩; dsimp only at hX2 ⊢; have hbx : w2.heap[wr.heap.size]? = some (Obj.cells #[.int .i64 2, .int .i64 wk, .int .i64 who] 36 (0, 0)) := hO4.get (wr.heap.size, Obj.cells #[.int .i64 2, .int .i64 wk, .int .i64 who] 36 (0, 0)) (by simp [cat]); have oc2 : w2.cell? ⟨wr.heap.size, 2, none⟩ = some (.int .i64 who) := cell_of_get hbx 2; have ol := lt_of_get hbx; clear hbx; have hO5 := hO4.shuf [L2, [_], [_]] [2, 0, 1] rfl rfl; have hlk2 := run_lookup_kvs (P := Try.prog) (w := w2) (b := bm) Try.underlying30 Try.underlying3 (.bool false) zero4 hO5.head hMap who; rw [kat_set, decide_eq_false hnk] at hlk2)
            all_goals
              obtain ⟨o', hrun, hm'⟩ := run_delete_kvs (P := Try.prog) (w := w2) (b := bm) Try.underlying30 Try.underlying3 hO5.head hMap who #[30, 3] rfl 0
              rw [kdel_set, List.erase_of_not_mem hnk] at hm'
              have hO6 := ((Own.setObj hO5 o').shuf [[_], L2, [_]] [2, 1, 0] rfl rfl).tail
              generalize hw4 : ({ w2 with heap := w2.heap.setIfInBounds bm o' } : World) = w4 at hrun hO6
              clear hw4 hO5 hO4 hO3 hO hX hMap hlk hlk2
              obtain ⟨vs, Ls, hQ, rfl⟩ := hX2
              have hb := Lib.hid (q_get0 hO6)
              have hlen := run_len_kvs (P := Try.prog) (w := w4) (b := bm) Try.underlying30 (hO6.get (bm, o') (by simp [cat])) hm'
              rw [setK_len] at hlen
              have HL := Lib.hid (hI.len hn16)
              have HM := Lib.hid hm'
              have HI := Lib.hid hI
              have HO := Lib.hid hO6
              have HQ := Lib.hid hQ
              clear hm' hI hO6 hQ
              go_wp2_with (go_at_call 18; refine (len_q w.heap.size n vs Ls ls st _ HQ.out hb.out).mono ?_; rintro e w' ⟨rfl, rfl⟩; rw [HL.out])
              exact ⟨⟨k + 1, ls, st, ks, _, o', by omega, by go_num, ⟨vs, Ls, HQ.out, rfl⟩, HM.out, HO.out, HI.out⟩, by simp [intOf]; omega⟩
          · have HR := Lib.hid hr
            rw [kat_set, decide_eq_true hnk] at hlk
            clear hr
            go_wp2_with fail
            go_region_law (go_simp; go_at_call 17; refine (drop_q w.heap.size w w.heap.size n ls st L _ who _ hX hO3.drew).mono ?_; rw [HR.out]; rintro e w2 ⟨rfl, L2, hX2, hO4⟩; dsimp only at hX2 ⊢; have hbx : w2.heap[wr.heap.size]? = some (Obj.cells #[.int .i64 2, .int .i64 wk, .int .i64 who] 36 (0, 0)) := hO4.get (wr.heap.size, Obj.cells #[.int .i64 2, .int .i64 wk, .int .i64 who] 36 (0, 0)) (by simp [cat]); have oc2 : w2.cell? ⟨wr.heap.size, 2, none⟩ = some (.int .i64 who) := cell_of_get hbx 2; have ol := lt_of_get hbx; clear hbx; have hO5 := hO4.shuf [L2, [_], [_]] [2, 0, 1] rfl rfl; have hlk2 := run_lookup_kvs (P := Try.prog) (w := w2) (b := bm) Try.underlying30 Try.underlying3 (.bool false) zero4 hO5.head hMap who; rw [kat_set, decide_eq_true hnk] at hlk2)
            all_goals
              obtain ⟨o', hrun, hm'⟩ := run_delete_kvs (P := Try.prog) (w := w2) (b := bm) Try.underlying30 Try.underlying3 hO5.head hMap who #[30, 3] rfl 0
              rw [kdel_set] at hm'
              have hO6 := ((Own.setObj hO5 o').shuf [[_], L2, [_]] [2, 1, 0] rfl rfl).tail
              generalize hw4 : ({ w2 with heap := w2.heap.setIfInBounds bm o' } : World) = w4 at hrun hO6
              clear hw4 hO5 hO4 hO3 hO hX hMap hlk hlk2
              obtain ⟨vs, Ls, hQ, rfl⟩ := hX2
              have hb := Lib.hid (q_get0 hO6)
              have hlen := run_len_kvs (P := Try.prog) (w := w4) (b := bm) Try.underlying30 (hO6.get (bm, o') (by simp [cat])) hm'
              rw [setK_len] at hlen
              have HL := Lib.hid (hI'.len hn16)
              have HM := Lib.hid hm'
              have HI := Lib.hid hI'
              have HO := Lib.hid hO6
              have HQ := Lib.hid hQ
              clear hm' hI' hO6 hQ
              go_wp2_with (go_at_call 18; refine (len_q w.heap.size n vs Ls ls' st _ HQ.out hb.out).mono ?_; rintro e w' ⟨rfl, rfl⟩; rw [HL.out])
              exact ⟨⟨k + 1, ls', st, (ks.erase who), _, o', by omega, by go_num, ⟨vs, Ls, HQ.out, rfl⟩, HM.out, HO.out, HI.out⟩, by simp [intOf]; omega⟩
        · have hdd : (d == 2) = false := by simpa using hd2
          clear hd hd2
          go_wp2_with fail
          refine (next_q w.heap.size w w.heap.size n ls st L _ wk _ hX hO3).mono ?_
          rcases hI.next st wk with hr | ⟨hr, rfl⟩ | ⟨x, ls1, st1, hr, hxk, hI'⟩
          · rw [hr]
            rintro e w2 ⟨rfl, L2, hX2, hO4⟩
            dsimp only at hX2 ⊢
            have hO6 := (hO4.shuf [L2, [_], [_]] [1, 0, 2] rfl rfl).tail
            clear hO4 hO3 hO hX hr
            obtain ⟨vs, Ls, hQ, rfl⟩ := hX2
            have hb := Lib.hid (q_get0 hO6)
            have hlen := run_len_kvs (P := Try.prog) (w := w2) (b := bm) Try.underlying30 (hO6.get (bm, o) (by simp [cat])) hMap
            rw [setK_len] at hlen
            have HL := Lib.hid (hI.len hn16)
            have HM := Lib.hid hMap
            have HI := Lib.hid hI
            have HO := Lib.hid hO6
            have HQ := Lib.hid hQ
            clear hMap hI hO6 hQ
            go_wp2_with (go_at_call 18; refine (len_q w.heap.size n vs Ls ls st _ HQ.out hb.out).mono ?_; rintro e w' ⟨rfl, rfl⟩; rw [HL.out])
            exact ⟨⟨k + 1, ls, st, ks, _, o, by omega, by go_num, ⟨vs, Ls, HQ.out, rfl⟩, HM.out, HO.out, HI.out⟩, by simp [intOf]; omega⟩
          · rw [hr]
            rintro e w2 ⟨rfl, L2, hX2, hO4⟩
            dsimp only at hX2 ⊢
            have hO6 := (hO4.shuf [L2, [_], [_]] [1, 0, 2] rfl rfl).tail
            clear hO4 hO3 hO hX hr
            obtain ⟨vs, Ls, hQ, rfl⟩ := hX2
            have hb := Lib.hid (q_get0 hO6)
            have hlen := run_len_kvs (P := Try.prog) (w := w2) (b := bm) Try.underlying30 (hO6.get (bm, o) (by simp [cat])) hMap
            rw [setK_len, List.length_nil] at hlen
            have HL := Lib.hid (hI.len hn16)
            have HM := Lib.hid hMap
            have HI := Lib.hid hI
            have HO := Lib.hid hO6
            have HQ := Lib.hid hQ
            clear hMap hI hO6 hQ
            go_wp2_with (go_at_call 18; refine (len_q w.heap.size n vs Ls ls st _ HQ.out hb.out).mono ?_; rintro e w' ⟨rfl, rfl⟩; rw [HL.out])
            exact ⟨⟨k + 1, ls, st, [], _, o, by omega, by go_num, ⟨vs, Ls, HQ.out, rfl⟩, HM.out, HO.out, HI.out⟩, by simp [intOf]; omega⟩
          · rw [hr]
            rintro e w2 ⟨rfl, L2, hX2, hO4⟩
            dsimp only at hX2 ⊢
            have hO5 := hO4.shuf [L2, [_], [_]] [2, 0, 1] rfl rfl
            have hlook := run_lookup_kvs (P := Try.prog) (w := w2) (b := bm) Try.underlying30 Try.underlying3 (.bool false) zero4 hO5.head hMap x
            rw [kat_set, decide_eq_true hxk] at hlook
            obtain ⟨o', hrun, hm'⟩ := run_delete_kvs (P := Try.prog) (w := w2) (b := bm) Try.underlying30 Try.underlying3 hO5.head hMap x #[30, 3] rfl 0
            rw [kdel_set] at hm'
            have hO6 := ((Own.setObj hO5 o').shuf [[_], L2, [_]] [2, 1, 0] rfl rfl).tail
            generalize hw4 : ({ w2 with heap := w2.heap.setIfInBounds bm o' } : World) = w4 at hrun hO6
            clear hw4 hO5 hO4 hO3 hO hX hMap hI hr
            obtain ⟨vs, Ls, hQ, rfl⟩ := hX2
            have hb := Lib.hid (q_get0 hO6)
            have hlen := run_len_kvs (P := Try.prog) (w := w4) (b := bm) Try.underlying30 (hO6.get (bm, o') (by simp [cat])) hm'
            rw [setK_len] at hlen
            have HL := Lib.hid (hI'.len hn16)
            have HM := Lib.hid hm'
            have HI := Lib.hid hI'
            have HO := Lib.hid hO6
            have HQ := Lib.hid hQ
            clear hm' hI' hO6 hQ
            go_wp2_with (go_at_call 18; refine (len_q w.heap.size n vs Ls ls1 st1 _ HQ.out hb.out).mono ?_; rintro e w' ⟨rfl, rfl⟩; rw [HL.out])
            exact ⟨⟨k + 1, ls1, st1, (ks.erase x), _, o', by omega, by go_num, ⟨vs, Ls, HQ.out, rfl⟩, HM.out, HO.out, HI.out⟩, by simp [intOf]; omega⟩
    · obtain rfl : k = N := by omega
      have HB := Lib.hid hO.below
      clear hI hX hMap hO
      go_wp2
      go_ret
      exact ⟨rfl, HB.out⟩

end Go.Proofs.Ytojcojoleodjmaa
