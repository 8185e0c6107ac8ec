/-
  The walk of shuttlelaw19.RunFirst: it returns true. No condition.
-/
import Derived.Test.YtojcojoleodjmaaRqTold
import Derived.Test.YtojcojoleodjmaaRqTurn
namespace Go.Proofs.Ytojcojoleodjmaa
open Go.RowKit Go.Sh

theorem next_one {ls : Nat → List Int} {z : Int} {r : List Int} (st : Int) (h : ls 0 = z :: r) : nextQ 1 ls st 0 = (z, 0, upd ls 0 r, st) := by
  have h1 : mayQ 1 (0 : Int) = 0 := mayQ_ok (n := 1) (k := 0) (by omega)
  unfold nextQ
  rw [h1, if_neg (by decide)]
  have h2 : ls (0 : Int).toNat = z :: r := h
  rw [h2, if_neg (by simp)]
  unfold popQ
  rw [h2]
  rfl

theorem push_one {ls : Nat → List Int} {x : Int} {want : List Int} (h : ls 0 = want) (hx : x ∉ want) (h0 : 0 ≤ x) (h1 : x ≤ 255) (hl : want.length ≤ 100) : pushQ 1 ls 0 x = (0, upd ls 0 (want ++ [x])) := by
  subst h
  have hc : x ∉ cont 1 ls := by simpa [cont] using hx
  exact (pushQ_ok (n := 1) (k := 0) (by omega) hc h0 (by omega) (by omega)).1

abbrev B1 (x : Bool) : List Value := [.bool x]
theorem B1_len (x : Bool) : (B1 x).length = 1 := rfl
theorem flatB1 (xs : List Bool) : xs.flatMap B1 = xs.map Value.bool := by
  induction xs with
  | nil => rfl
  | cons x xs ih => simp only [List.flatMap_cons, List.map_cons, ih]; rfl

def FirstRel (B : Nat) (w0 : World) (b N : Nat) (a i : Value) (wr : World) : Prop :=
  ∃ (k : Nat) (ls : Nat → List Int) (st : Int) (want : List Int) (L La : List (Nat × Obj)), k ≤ N ∧ i = .int .i64 k ∧ Qx b 1 ls st L ∧ Sl 3 1 I a want La ∧ Sh.Own B w0 wr (L ++ La) ∧
    ls 0 = want ∧ want.length ≤ k

set_option maxRecDepth 100000 in
set_option maxHeartbeats 4000000 in
theorem first5 (xs : List Int) (ao : Option Addr) (cap : Nat) (ys : List Bool) (bo : Option Addr) (cbp : Nat) (w : World) (hR : Rd w U8 (.slice ao xs.length cap) xs) (hok : ∀ x ∈ xs, (Lit.int .u8 x).wf = true) (hx : xs.length ≤ 9223372036854775807) (hcap : xs.length ≤ cap)
    (hR2 : Rd w B1 (.slice bo ys.length cbp) ys) (_ : ∀ x ∈ ys, True) (hy : ys.length ≤ 9223372036854775807) (hcap2 : ys.length ≤ cbp) :
    Calls Try.prog 5 #[.slice ao xs.length cap, .slice bo ys.length cbp] w fun e w' => e = .returned (.bool true) ∧ Below w.heap.size w w' := by
  have R1 := Lib.hid (show ∀ j (hj : j < xs.length), ∃ g off, ao = some ⟨g, off, none⟩ ∧ w.cell? ⟨g, off + j, none⟩ = some (.int .u8 xs[j]) by
    intro j hj
    rcases hR with ⟨rfl, _⟩ | ⟨g, off, cap', hv, hc⟩
    · simp at hj
    · simp only [Value.slice.injEq, true_and] at hv
      exact ⟨g, off, hv.1, hc j _ (by rw [flatU8]; simp [List.getElem?_eq_getElem hj])⟩)
  have R2 := Lib.hid (show ∀ j (hj : j < ys.length), ∃ g off, bo = some ⟨g, off, none⟩ ∧ w.cell? ⟨g, off + j, none⟩ = some (.bool ys[j]) by
    intro j hj
    rcases hR2 with ⟨rfl, _⟩ | ⟨g, off, cap', hv, hc⟩
    · simp at hj
    · simp only [Value.slice.injEq, true_and] at hv
      exact ⟨g, off, hv.1, hc j _ (by rw [flatB1]; simp [List.getElem?_eq_getElem hj])⟩)
  have HOK := Lib.hid (show ∀ j (hj : j < xs.length), 0 ≤ xs[j] ∧ xs[j] ≤ 255 from fun j hj => u8_wf (hok _ (List.getElem_mem hj)))
  obtain ⟨N, hN1, hN2, hmin⟩ : ∃ N : Nat, N ≤ xs.length ∧ N ≤ 100 ∧ (if (100 : Int) < (xs.length : Int) then 100 else (xs.length : Int)) = (N : Int) := ⟨min xs.length 100, by omega, by omega, by split <;> omega⟩
  clear hR hok hR2
  obtain ⟨i0, hi, hz0, hz1, hz2⟩ := info_parts Try.info3
  have hO0 := (Own.start w).alloc (qobj 1 (fun _ => .slice none 0 0) 0)
  have HMIN := Lib.hid hmin
  go_enter Try.func5, Try.ntmps5
  go_wp2_with (go_at_call 13; refine (new_q 1 _ rfl _ (by omega) (by omega)).mono ?_; rintro e w' ⟨rfl, rfl⟩)
  refine (awake14 _ w _ _ hO0).mono ?_
  rintro e w1 ⟨rfl, hO1⟩
  go_wp2
  clear hmin
  clear hO0
  have HX1 := Lib.hid (Qx.new (b := w.heap.size) (n := 1) (by omega) (by omega))
  go_loopw [7, 33] (fun a i wr => FirstRel w.heap.size w w.heap.size N a i wr) (fun _ i _ => N - (intOf i).toNat)
  case atStart => exact ⟨0, _, _, [], _, [], Nat.zero_le _, rfl, HX1.out, Sl.nil, by simpa using hO1, rfl, Nat.le_refl _⟩
  case round =>
    obtain ⟨k, ls, st, want, L, La, hk, rfl, hX, hS, hO, hw0, hfew⟩ := hrel
    obtain ⟨aa, ca, rfl, hca, _⟩ := hS.form
    clear hO1 HX1
    have HW := Lib.hid hw0
    clear hw0
    by_cases hlt : k < N
    · obtain ⟨g, off, rfl, e1⟩ := R1.out k (by omega)
      have hb1 := World.block_lt_of_cell? _ _ e1
      have c1 := (hO.below.cell (p := ⟨g, off + k, none⟩) hb1).trans e1
      have hkx : k < xs.length := by omega
      obtain ⟨hx0, hx1⟩ := HOK.out k hkx
      clear e1
      obtain ⟨x, hop⟩ : ∃ x, xs[k] = x := ⟨_, rfl⟩
      rw [hop] at c1 hx0 hx1
      clear hop
      by_cases hm : x ∈ want
      · have hcf : want.contains x = true := by simpa using hm
        go_wp2_with fail
        refine (contains_any want x _ _ (by omega) (Sl_rd hS (fun p hp => hO.get p (by simp [hp])))).mono ?_
        rintro e w' ⟨rfl, rfl⟩
        rw [hcf]
        have HNE := Lib.hid (show want ≠ [] from fun e => by rw [e] at hm; cases hm)
        have hle2 : want.length ≤ k + 1 := by omega
        clear hm hcf
        by_cases hky : k < ys.length
        · obtain ⟨gy, oy, rfl, ey⟩ := R2.out k hky
          have hby := World.block_lt_of_cell? _ _ ey
          have cy := (hO.below.cell (p := ⟨gy, oy + k, none⟩) hby).trans ey
          have hkyd : decide (k < ys.length) = true := by simpa using hky
          clear ey
          obtain ⟨y, hy⟩ : ∃ y, ys[k] = y := ⟨_, rfl⟩
          rw [hy] at cy
          clear hy
          cases y with
          | false =>
            go_wp2
            exact ⟨⟨k + 1, ls, st, want, L, La, by omega, by go_num, hX, hS, hO, HW.out, hle2⟩, by simp [intOf]; omega⟩
          | true =>
            obtain ⟨z, r, hwt⟩ : ∃ z r, want = z :: r := List.exists_cons_of_ne_nil HNE.out
            subst hwt
            have HR := Lib.hid (next_one st HW.out)
            rcases hS with ⟨_, h, _⟩ | ⟨ga, oa, cb, cura, hsv, rfl, hca1, hca2, hca3, hca4⟩
            · cases h
            · simp only [Value.slice.injEq] at hsv
              obtain ⟨rfl, _, rfl⟩ := hsv
              have hS : Sl 3 1 I (.slice (some ⟨ga, oa, none⟩) (z :: r).length ca) (z :: r) [(ga, Obj.cells cura 3 (0, 0))] := .inr ⟨ga, oa, ca, cura, rfl, rfl, hca1, hca2, hca3, hca4⟩
              obtain ⟨oa', hoa, hS'⟩ := hS.dropIf I_len 1 (by simp) (ca = 1) id
              have HOA := Lib.hid hoa
              have hca' : (1 : Int) ≤ ca := by simp at hca1; omega
              have hl1 : (0 : Int) < ((z :: r).length : Int) := by simp only [List.length_cons]; omega
              have HC4 := Lib.hid hca4
              clear hS hca1 hca2 hca3 hca4 hoa
              go_wp2_with fail
              refine (next_q w.heap.size w w.heap.size 1 ls st L _ 0 _ hX (by first | exact hO | exact hO.drew)).mono ?_
              rw [HR.out]
              rintro e w3 ⟨rfl, L3, hX3, hO3⟩
              dsimp only at hX3 ⊢
              have hga : w3.heap[ga]? = some (.cells cura 3 (0, 0)) := hO3.get (ga, .cells cura 3 (0, 0)) (by simp)
              have hlg := lt_of_get hga
              have hx0 : w3.cell? ⟨ga, oa, none⟩ = some (.int .i64 z) := by
                rw [cell_of_get hga]
                have : (List.take ((z :: r).length * 1) (List.drop oa cura.toList))[0]? = some (.int .i64 z) := by rw [HC4.out]; rfl
                simpa [List.getElem?_take] using this
              clear hga hX hO hlg
              go_wp2
              rw [show oa + 1 * 1 = oa + 1 from rfl] at HOA
              rw [HOA.out]
              exact ⟨⟨k + 1, upd ls 0 r, st, r, L3, [(ga, Obj.cells cura 3 (0, 0))], by omega, by go_num, hX3, by simpa using hS', hO3, upd_same _ _ _, by simp at hle2; omega⟩, by simp [intOf]; omega⟩
        · have hkyi : decide (k < ys.length) = false := by simpa using hky
          go_wp2
          exact ⟨⟨k + 1, ls, st, want, L, La, by omega, by go_num, hX, hS, hO, HW.out, hle2⟩, by simp [intOf]; omega⟩
      · have hcf : want.contains x = false := by simpa using hm
        have HR := Lib.hid (push_one HW.out hm hx0 hx1 (by omega))
        have HCF := Lib.hid hcf
        clear hcf
        go_wp2_with (go_at_call 19; refine (contains_any want x _ _ (by omega) (Sl_rd hS (fun p hp => hO.get p (by simp [hp])))).mono ?_; rintro e w' ⟨rfl, rfl⟩; rw [HCF.out])
        refine (push_q w.heap.size w w.heap.size 1 ls st L La 0 x _ hX hO).mono ?_
        rw [HR.out]
        rintro e w2 ⟨rfl, L2, hX2, hO2⟩
        dsimp only at hX2 ⊢
        go_wp2_with (at_builtin; refine wpList_append_sl rfl (.tmp 48) (.tmp 50) 28 rfl _ _ _ Try.underlying28 hi hz0 hz1 hz2 rfl I_len I_one rfl hS (F := L2) (by exact (hO2.shuf [L2, La] [1, 0] rfl rfl).junk _) ⟨w2.heap.size, 0, none⟩ [x] 1 1 rfl rfl (news_one (x := .int .i64 x) (by simp [World.cell?_alloc_at])) (by decide) (by unfold maxLen; omega) (by omega) ?_)
        intro g' off' cap' w3 L3 hS3 hO3 _ _
        obtain ⟨want2, hwd⟩ : ∃ z, z = want ++ [x] := ⟨_, rfl⟩
        have hwl : want.length + 1 = want2.length := by rw [hwd]; simp
        have HNE := Lib.hid (show want2 ≠ [] by rw [hwd]; simp)
        have hle2 : want2.length ≤ k + 1 := by omega
        have HW2 : Hid (upd ls 0 (want ++ [x]) 0 = want2) := Lib.hid (by rw [upd_same, hwd])
        rw [← hwd, hwl] at hS3
        rw [hwl]
        generalize hav : (some ⟨g', off', none⟩ : Option Addr) = av at hS3 ⊢
        clear hav
        have hO4 := hO3.comm
        generalize hls : upd ls 0 (want ++ [x]) = ls3 at hX2 HW2
        clear hO2 hS hO hX hO3 hm hwd hls HR hwl
        by_cases hky : k < ys.length
        · obtain ⟨gy, oy, rfl, ey⟩ := R2.out k hky
          have hby := World.block_lt_of_cell? _ _ ey
          have cy := (hO4.below.cell (p := ⟨gy, oy + k, none⟩) hby).trans ey
          have hkyd : decide (k < ys.length) = true := by simpa using hky
          clear ey
          obtain ⟨y, hy⟩ : ∃ y, ys[k] = y := ⟨_, rfl⟩
          rw [hy] at cy
          clear hy
          cases y with
          | false =>
            go_wp2
            exact ⟨⟨k + 1, ls3, st, want2, L2, L3, by omega, by go_num, hX2, hS3, hO4, HW2.out, hle2⟩, by simp [intOf]; omega⟩
          | true =>
            obtain ⟨z, r, hwt⟩ : ∃ z r, want2 = z :: r := List.exists_cons_of_ne_nil HNE.out
            subst hwt
            have HR := Lib.hid (next_one st HW2.out)
            rcases hS3 with ⟨_, h, _⟩ | ⟨ga, oa, cb, cura, hsv, rfl, hca1, hca2, hca3, hca4⟩
            · cases h
            · simp only [Value.slice.injEq] at hsv
              obtain ⟨rfl, _, rfl⟩ := hsv
              have hS : Sl 3 1 I (.slice (some ⟨ga, oa, none⟩) (z :: r).length cap') (z :: r) [(ga, Obj.cells cura 3 (0, 0))] := .inr ⟨ga, oa, cap', cura, rfl, rfl, hca1, hca2, hca3, hca4⟩
              obtain ⟨oa', hoa, hS'⟩ := hS.dropIf I_len 1 (by simp) (cap' = 1) id
              have HOA := Lib.hid hoa
              have hca' : (1 : Int) ≤ cap' := by simp at hca1; omega
              have hl1 : (0 : Int) < ((z :: r).length : Int) := by simp only [List.length_cons]; omega
              have HC4 := Lib.hid hca4
              clear hS hca1 hca2 hca3 hca4 hoa
              go_wp2_with fail
              refine (next_q w.heap.size w w.heap.size 1 ls3 st L2 _ 0 _ hX2 (by first | exact hO4 | exact hO4.drew)).mono ?_
              rw [HR.out]
              rintro e w4 ⟨rfl, L4, hX4, hO5⟩
              dsimp only at hX4 ⊢
              have hga : w4.heap[ga]? = some (.cells cura 3 (0, 0)) := hO5.get (ga, .cells cura 3 (0, 0)) (by simp)
              have hlg := lt_of_get hga
              have hx0 : w4.cell? ⟨ga, oa, none⟩ = some (.int .i64 z) := by
                rw [cell_of_get hga]
                have : (List.take ((z :: r).length * 1) (List.drop oa cura.toList))[0]? = some (.int .i64 z) := by rw [HC4.out]; rfl
                simpa [List.getElem?_take] using this
              clear hga hX2 hO4 hlg
              go_wp2
              rw [show oa + 1 * 1 = oa + 1 from rfl] at HOA
              rw [HOA.out]
              exact ⟨⟨k + 1, upd ls3 0 r, st, r, L4, [(ga, Obj.cells cura 3 (0, 0))], by omega, by go_num, hX4, by simpa using hS', hO5, upd_same _ _ _, by simp at hle2; omega⟩, by simp [intOf]; omega⟩
        · have hkyi : decide (k < ys.length) = false := by simpa using hky
          go_wp2
          exact ⟨⟨k + 1, ls3, st, want2, L2, L3, by omega, by go_num, hX2, hS3, hO4, HW2.out, hle2⟩, by simp [intOf]; omega⟩
    · obtain rfl : k = N := by omega
      obtain ⟨vs, Ls, hQ, rfl⟩ := hX
      have hm0 : mayQ 1 (0 : Int) = 0 := mayQ_ok (n := 1) (k := 0) (by omega)
      have HT := Lib.hid (show toldL 1 ls 0 1048576 = want by
        unfold toldL
        rw [hm0, if_neg (by decide)]
        have : ls (0 : Int).toNat = want := HW.out
        rw [this, List.take_of_length_le (by omega)])
      clear hm0
      go_wp2_with fail
      refine (all22 (some ⟨w.heap.size, 0, none⟩) 0 _).mono ?_
      rintro e w2 ⟨rfl, rfl⟩
      have hO2 := ((hO.junk (.cells #[.pointer (some ⟨w.heap.size, 0, none⟩)] 23)).junk (.cells #[.int .i64 0] 3))
      have hbp : ((wr.alloc (.cells #[.pointer (some ⟨w.heap.size, 0, none⟩)] 23)).alloc (.cells #[.int .i64 0] 3)).cell? ⟨wr.heap.size, 0, none⟩ = some (.pointer (some ⟨w.heap.size, 0, none⟩)) := by simp
      have hbw : ((wr.alloc (.cells #[.pointer (some ⟨w.heap.size, 0, none⟩)] 23)).alloc (.cells #[.int .i64 0] 3)).cell? ⟨wr.heap.size + 1, 0, none⟩ = some (.int .i64 0) := by simp
      go_wp2_with fail
      refine (told_q w.heap.size w _ w.heap.size 1 vs Ls ls st 0 wr.heap.size (wr.heap.size + 1) 1048576 _ hQ hO2 (fun p hp => List.mem_append_left _ hp) hbp hbw).mono ?_
      rintro e w3 ⟨v, L3, rfl, hS3, hO3⟩
      rw [HT.out] at hS3
      go_wp2_with fail
      refine (equal20 _ _ _ want want v _ _ (Sl_rd hS3 (fun p hp => hO3.get p (by simp [hp]))) (Sl_rd hS (fun p hp => hO3.get p (by simp [hp]))) hO3 (by omega) (by omega)).mono ?_
      rintro e w4 ⟨rfl, hO4⟩
      have hdt : decide (want = want) = true := by simp
      rw [hdt]
      go_wp2
      go_ret
      exact ⟨rfl, hO4.below⟩

end Go.Proofs.Ytojcojoleodjmaa

