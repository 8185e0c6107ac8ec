/-
  The walk of shuttlelaw15.ChanOrder: it returns true. No condition.
-/
import Derived.Test.YtidnkienkdlmkaaChOrdP
import Derived.Test.YtidnkienkdlmkaaChAwake
import Derived.Test.YtidnkienkdlmkaaChTold
import Derived.Deep.RegionHeld3
import Derived.Carry
namespace Go.Proofs.Ytidnkienkdlmkaa
open Go.RowKit Go.Sh

abbrev gobj (got : Int) : Obj := Obj.cells #[.int .i64 got] 2 (0, 0)

theorem next43 (B : Nat) (w0 : World) (F : List (Nat × Obj)) (pg : Nat) (got t n : Int) (w : World) (ht : t = 1) (hn : n = got + 1) (hO : Sh.Own B w0 w ((pg, gobj got) :: F)) (h0 : 0 ≤ got) (h1 : got ≤ 1000) :
    Calls Try.prog 43 #[.agg #[.int .i64 t, .int .i64 n], .pointer (some ⟨pg, 0, none⟩)] w fun e w' => e = .returned (.bool true) ∧ Sh.Own B w0 w' ((pg, gobj (got + 1)) :: F) := by
  subst ht
  subst hn
  have hb := hO.head
  have c0 : w.cell? ⟨pg, 0, none⟩ = some (.int .i64 got) := cell_of_get hb 0
  have f0 : w.frozen? ⟨pg, 0, none⟩ = false := free_of_get hb 0
  have hlt := lt_of_get hb
  have hO2 := Lib.hid ((hO.setTo 0 (.int .i64 (got + 1)) rfl).junk (.cells #[.int .i64 1, .int .i64 (got + 1)] 30))
  clear hb hO
  go_enter Try.func43, Try.ntmps43
  go_wp2
  go_ret
  exact ⟨rfl, hO2.out⟩

def OrdRel (B : Nat) (w0 : World) (b pg N : Nat) (s7 i : Value) (wr : World) : Prop :=
  ∃ (k m : Nat) (s : CS) (got sent : Int) (L : List (Nat × Obj)), k ≤ N ∧ i = .int .i64 k ∧ s7 = .int .i64 sent ∧ Cx b s L ∧ Sh.Own B w0 wr (L ++ [(pg, gobj got)]) ∧ OI s got m k ∧ sent = got + m ∧ 0 ≤ got ∧ sent ≤ k

set_option maxRecDepth 100000 in
set_option maxHeartbeats 8000000 in
theorem order11 (a : Int) (xs : List W3) (ao : Option Addr) (cap : Nat) (w : World) (ha : (Lit.int .u8 a).wf = true) (hR : Rd w C3 (.slice ao xs.length cap) xs) (_ : ∀ x ∈ xs, True) (hx : xs.length ≤ 9223372036854775807) (hcap : xs.length ≤ cap) :
    Calls Try.prog 11 #[.int .u8 a, .slice ao xs.length cap] w fun e w' => e = .returned (.bool true) ∧ Below w.heap.size w w' := by
  obtain ⟨ao', cap', he, r1⟩ := rd_c3 hR
  simp only [Value.slice.injEq, true_and] at he
  obtain ⟨rfl, rfl⟩ := he
  have R1 := Lib.hid r1
  have ha0 : 0 ≤ a ∧ a ≤ 255 := by
    have h1 : IntKind.u8.min = 0 := by decide
    have h2 : IntKind.u8.max = 255 := by decide
    simp [Lit.wf, h1, h2] at ha
    omega
  obtain ⟨N, hN1, hN2, hmin⟩ : ∃ N : Nat, N ≤ xs.length ∧ N ≤ 200 ∧ (if (200 : Int) < (xs.length : Int) then 200 else (xs.length : Int)) = (N : Int) := ⟨min xs.length 200, by omega, by omega, by split <;> omega⟩
  obtain ⟨room, hroom⟩ : ∃ room, room = a % 65 := ⟨_, rfl⟩
  have hr0 : 0 ≤ room := by omega
  have hr1 : room ≤ 64 := by omega
  have hmod : a % 65 = room := hroom.symm
  obtain ⟨ha0, ha1⟩ := ha0
  clear hR ha r1 hroom
  have hO0 := (Sh.Own.start w).alloc (cobj room (.slice none 0 0) (.slice none 0 0) (.slice none 0 0) false)
  have HMIN := Lib.hid hmin
  have eg : ∀ args w, (callFunc 43 args).run Try.prog w = .ok (.enter 43 args) w := enters_of Try.func43 (by kernel_rfl) rfl
  go_enter Try.func11, Try.ntmps11
  go_wp2_with (go_at_call 41; refine (cnew41 room _ hr0 hr1).mono ?_; rintro e w' ⟨rfl, rfl⟩)
  refine (awake42 _ w _ _ hO0).mono ?_
  rintro e w1 ⟨rfl, hO1⟩
  have hO2 := (hO1.alloc (gobj 0)).shuf [[_], [_]] [1, 0] rfl rfl
  go_wp2
  generalize hpg : w1.heap.size = pg at hO2 ⊢
  clear hmin hO0 hO1 hpg
  have HX1 := Lib.hid (Cx.new w.heap.size room hr0 hr1)
  go_loopw [7, 45] (fun s7 i wr => OrdRel w.heap.size w w.heap.size pg N s7 i wr) (fun _ i _ => N - (intOf i).toNat)
  case atStart => exact ⟨0, 0, _, 0, 0, _, Nat.zero_le _, rfl, rfl, HX1.out, hO2, OI.new room, by simp, Int.le_refl _, by simp⟩
  case round =>
    clear hO2 HX1
    obtain ⟨k, m, s, got, sent, L, hk, rfl, rfl, hX, hO, hI, hse, hg0, hsk⟩ := hrel
    by_cases hlt : k < N
    · obtain ⟨g, off, rfl, hgl, e0, e1, e2⟩ := R1.out k (by omega)
      have c0 := (hO.below.cell (p := ⟨g, off + k * 3, none⟩) hgl).trans e0
      have c1 := (hO.below.cell (p := ⟨g, off + k * 3 + 1, none⟩) hgl).trans e1
      have c2 := (hO.below.cell (p := ⟨g, off + k * 3 + 2, none⟩) hgl).trans e2
      have hkx : k < xs.length := by omega
      clear e0 e1 e2
      obtain ⟨⟨d, wh, nn⟩, hop⟩ : ∃ x, xs[k] = x := ⟨_, rfl⟩
      rw [hop] at c0 c1 c2
      dsimp only at c0 c1 c2
      clear hop
      have hO3 := (hO.junk (.cells #[.int .i64 d, .int .i64 wh, .int .i64 nn] 96))
      have hs0 : 0 ≤ sent := by omega
      have hs1 : sent ≤ 200 := by omega
      have HSE := Lib.hid hse
      have HI := Lib.hid hI
      have hgb : got ≤ 1000 := by omega
      by_cases hd : d = 0
      · subst hd
        have hcs := OI.send hI (show k < 65536 by omega)
        rw [show got + (m : Int) + 1 = sent + 1 by omega] at hcs
        clear hI hse
        go_wp2_with fail
        refine (csend w.heap.size w w.heap.size s L _ k ⟨1, sent + 1⟩ _ hX hO3).mono ?_
        rcases hcs with ⟨y, s', hm0, hr, hI'⟩ | ⟨dn, s', hr, hI'⟩ | ⟨hr, hI'⟩
        · rw [hr]
          rintro e w2 ⟨wk, K, C2', rfl, hK, hX2, hO4⟩
          dsimp only at hK hX2 ⊢
          obtain ⟨ak, ck, rfl, r2⟩ := rd_wakes (Sl_rd (w := w2) hK (fun p hp => hO4.get p (by simp [hp])))
          obtain ⟨gk, ok, rfl, hgk, hc4⟩ := r2 0 (by simp)
          obtain ⟨k0, k1, k2, k3⟩ := hc4 0 (by simp)
          simp only [List.getElem_cons_zero, Nat.zero_mul, Nat.add_zero] at k0 k1 k2 k3
          have hgk1 : gk < w2.heap.size + 1 := by omega
          have hO5 := hO4.shuf [C2', K, [_]] [2, 0, 1] rfl rfl
          have HO5 := Lib.hid ((hO5.junk (outO true 0 0 0 (.slice (some ⟨gk, ok, none⟩) 1 ck))).junk (.cells #[.int .i64 y, .int .i64 1, .int .i64 (got + 1), .int .i64 0] 38))
          have HI' := Lib.hid hI'
          have HM0 := Lib.hid hm0
          clear hr hO4 hO5 hO3 hO hX hI' c0 c1 c2 r2 hc4 hK hm0
          go_wp2
          refine wp_loop_rounds 2 ?_
          rw [rounds_succ]
          go_wp2_with (go_at_fn 43; refine (next43 w.heap.size w _ pg got 1 (got + 1) _ rfl rfl HO5.out hg0 hgb).mono ?_; rintro e w5 ⟨rfl, hO7⟩)
          rw [rounds_succ]
          have HO7 := Lib.hid (show Sh.Own w.heap.size w w5 ((C2' ++ [(pg, gobj (got + 1))]) ++ K) by simpa [cat] using hO7.shuf [[_], C2', K] [1, 0, 2] rfl rfl).left
          clear hO7 k0 k1 k2 k3
          go_wp2
          exact ⟨⟨k + 1, 0, s', got + 1, sent + 1, C2', by omega, by go_num, rfl, hX2, HO7.out, HI'.out, by have := HSE.out; have := HM0.out; subst this; simp at *; omega, by omega, by push_cast; omega⟩, by simp [intOf]; omega⟩
        · rw [hr]
          rintro e w2 ⟨wk, K, C2', rfl, hK, hX2, hO4⟩
          dsimp only at hK hX2 ⊢
          obtain ⟨ak, ck, rfl, _, _⟩ := hK.form
          have hO5 := (hO4.shuf [C2', K, [_]] [0, 2, 1] rfl rfl)
          have HO5 := Lib.hid ((show Sh.Own w.heap.size w w2 ((C2' ++ [(pg, gobj got)]) ++ K) by simpa [cat] using hO5).left.junk (outO dn 0 0 0 (.slice ak 0 ck)))
          have HI' := Lib.hid hI'
          clear hr hO4 hO5 hO3 hO hX hI' c0 c1 c2
          go_wp2
          refine wp_loop_rounds 1 ?_
          rw [rounds_succ]
          go_wp2
          exact ⟨⟨k + 1, m + 1, s', got, sent + 1, C2', by omega, by go_num, rfl, hX2, HO5.out, HI'.out, by have := HSE.out; push_cast; omega, hg0, by push_cast; omega⟩, by simp [intOf]; omega⟩
        · rw [hr]
          rintro e w2 ⟨wk, K, C2', rfl, hK, hX2, hO4⟩
          dsimp only at hK hX2 ⊢
          obtain ⟨ak, ck, rfl, _, _⟩ := hK.form
          have hO5 := (hO4.shuf [C2', K, [_]] [0, 2, 1] rfl rfl)
          have HO5 := Lib.hid ((show Sh.Own w.heap.size w w2 ((C2' ++ [(pg, gobj got)]) ++ K) by simpa [cat] using hO5).left.junk (outO false 0 0 0 (.slice ak 0 ck)))
          have HI' := Lib.hid hI'
          clear hr hO4 hO5 hO3 hO hX hI' c0 c1 c2
          go_wp2
          exact ⟨⟨k + 1, m, s, got, sent, C2', by omega, by go_num, rfl, hX2, HO5.out, HI'.out, HSE.out, hg0, by push_cast; omega⟩, by simp [intOf]; omega⟩
      · have hd0 : (d == 0) = false := by simpa using hd
        have hcs := OI.recv hI (show k < 65536 by omega)
        clear hI hse hd
        go_wp2_with fail
        refine (crecv w.heap.size w w.heap.size s L _ k _ hX hO3).mono ?_
        rcases hcs with ⟨m', wks, s', hm, hr, hI'⟩ | ⟨er, s', hr, her, hI'⟩
        · rw [hr]
          rintro e w2 ⟨wk, K, C2', rfl, hK, hX2, hO4⟩
          dsimp only at hK hX2 ⊢
          obtain ⟨ak, ck, rfl, _, _⟩ := hK.form
          have hO5 := hO4.shuf [C2', K, [_]] [2, 0, 1] rfl rfl
          have HO5 := Lib.hid (hO5.junk (outO true 1 (got + 1) 0 (.slice ak wks.length ck)))
          have HI' := Lib.hid hI'
          have HM := Lib.hid hm
          clear hr hO4 hO5 hO3 hO hX hI' c0 c1 c2 hK hm
          go_wp2_with (go_at_fn 43; refine (next43 w.heap.size w _ pg got 1 (got + 1) _ rfl rfl HO5.out hg0 hgb).mono ?_; rintro e w5 ⟨rfl, hO7⟩; have HO7 := Lib.hid (show Sh.Own w.heap.size w w5 ((C2' ++ [(pg, gobj (got + 1))]) ++ K) by simpa [cat] using hO7.shuf [[_], C2', K] [1, 0, 2] rfl rfl).left; clear hO7)
          exact ⟨⟨k + 1, m', s', got + 1, sent, C2', by omega, by go_num, rfl, hX2, HO7.out, HI'.out, by have := HSE.out; have := HM.out; subst this; push_cast at *; omega, by omega, by push_cast; omega⟩, by simp [intOf]; omega⟩
        · rw [hr]
          rintro e w2 ⟨wk, K, C2', rfl, hK, hX2, hO4⟩
          dsimp only at hK hX2 ⊢
          obtain ⟨ak, ck, rfl, _, _⟩ := hK.form
          have hO5 := (hO4.shuf [C2', K, [_]] [0, 2, 1] rfl rfl)
          have HO5 := Lib.hid ((show Sh.Own w.heap.size w w2 ((C2' ++ [(pg, gobj got)]) ++ K) by simpa [cat] using hO5).left.junk (outO false 0 0 0 (.slice ak 0 ck)))
          have HI' := Lib.hid hI'
          clear hr hO4 hO5 hO3 hO hX hI' c0 c1 c2
          rcases her with rfl | rfl
          all_goals
            go_wp2
            exact ⟨⟨k + 1, m, s', got, sent, C2', by omega, by go_num, rfl, hX2, HO5.out, HI'.out, HSE.out, hg0, by push_cast; omega⟩, by simp [intOf]; omega⟩
    · obtain rfl : k = N := by omega
      have HI := Lib.hid hI
      have HSE := Lib.hid hse
      have l1 : s.vals.length ≤ 64 := by obtain ⟨v1, v2, v3, L1, L2, L3, hC, _⟩ := hX; exact hC.l1
      have l2 : s.snd.length ≤ 256 := by obtain ⟨v1, v2, v3, L1, L2, L3, hC, _⟩ := hX; exact hC.l2
      clear hI hse
      go_wp2_with fail
      refine (all47 (some ⟨w.heap.size, 0, none⟩) _).mono ?_
      rintro e w2 ⟨rfl, rfl⟩
      go_wp2_with fail
      refine (told46 w.heap.size w _ w.heap.size s L wr.heap.size 1048576 _ hX (hO.junk (.cells #[.pointer (some ⟨w.heap.size, 0, none⟩)] 91)) (fun p hp => List.mem_append_left _ hp) (by simp)).mono ?_
      rintro e w3 ⟨v, L3, rfl, hS3, hO3⟩
      rw [List.take_of_length_le (by omega)] at hS3
      obtain ⟨av, cv, rfl, hcv, _⟩ := hS3.form
      have HRD := Lib.hid (show ∀ wr F, Sh.Own w.heap.size w wr (L3 ++ F) → ∀ j (hj : j < s.vals.length), ∃ g off, av = some ⟨g, off, none⟩ ∧ g < wr.heap.size ∧ wr.cell? ⟨g, off + j * 2, none⟩ = some (.int .i64 1) ∧ wr.cell? ⟨g, off + j * 2 + 1, none⟩ = some (.int .i64 (got + j + 1)) by
        intro wr F h j hj
        have hr := Sl_rd (w := wr) hS3 (fun p hp => h.get p (List.mem_append_left _ hp))
        have hv := HI.out.left.1 j hj
        rcases hr with ⟨h1, _⟩ | ⟨g, off, cap', h1, h2⟩
        · rw [h1] at hj; simp at hj
        · simp only [Value.slice.injEq, true_and] at h1
          have hc0 := h2 (j * 2 + 0) (.int .i64 1) (by rw [flatMap_get C2_len s.vals j 0 (by omega), List.getElem?_eq_getElem hj, hv]; rfl)
          have hc1 := h2 (j * 2 + 1) (.int .i64 (got + j + 1)) (by rw [flatMap_get C2_len s.vals j 1 (by omega), List.getElem?_eq_getElem hj, hv]; rfl)
          rw [← Nat.add_assoc] at hc0 hc1
          exact ⟨g, off, h1.1, World.block_lt_of_cell? _ _ hc0, hc0, hc1⟩)
      have hO4 := hO3.shuf [L3, L, [_]] [0, 2, 1] rfl rfl
      have HM := Lib.hid HI.out.left.2
      clear hO3 hO hS3
      go_wp2
      go_loopw [115] (fun i wr => ∃ j : Nat, j ≤ s.vals.length ∧ i = .int .i64 j ∧ Sh.Own w.heap.size w wr (L3 ++ ((pg, gobj (got + j)) :: L))) (fun i _ => s.vals.length - (intOf i).toNat)
      case atStart => exact ⟨0, Nat.zero_le _, rfl, by simpa [cat] using hO4⟩
      case round =>
        clear hO4
        obtain ⟨j, hj, rfl, hO⟩ := hrel
        by_cases hlj : j < s.vals.length
        · obtain ⟨g, off, rfl, hgl, c0, c1⟩ := HRD.out _ _ hO j hlj
          have hji : (j : Int) < s.vals.length := by omega
          have HO := Lib.hid ((hO.perm List.perm_middle).junk (.cells #[.int .i64 1, .int .i64 (got + j + 1)] 30))
          have hgj0 : 0 ≤ got + (j : Int) := by omega
          have hgj1 : got + (j : Int) ≤ 1000 := by have := HSE.out; have := HM.out; omega
          clear hO
          go_wp2_with (go_at_fn 43; refine (next43 w.heap.size w _ pg (got + j) 1 (got + j + 1) _ rfl rfl HO.out hgj0 hgj1).mono ?_; rintro e w5 ⟨rfl, hO7⟩; have HO7 := Lib.hid hO7; clear hO7)
          exact ⟨⟨j + 1, by omega, by go_num, by have := HO7.out.perm List.perm_middle.symm; rw [show got + (j : Int) + 1 = got + ((j + 1 : Nat) : Int) by push_cast; omega] at this; exact this⟩, by simp [intOf]; omega⟩
        · obtain rfl : j = s.vals.length := by omega
          have cg : wr.cell? ⟨pg, 0, none⟩ = some (.int .i64 (got + (s.vals.length : Int))) := cell_of_get (hO.get (pg, gobj (got + (s.vals.length : Int))) (by simp)) 0
          have e1 := World.new_ne wr _ cg
          have HFIN := Lib.hid (show ((s.snd.length : Int) == IntKind.i64.wrap (sent - (got + (s.vals.length : Int)))) = true by have := HSE.out; have := HM.out; rw [beq_iff_eq, IntWalk.i64_in _ (by omega)]; omega)
          have HO := Lib.hid hO
          clear hO
          go_wp2
          go_region_held3 (fun w' => w'.cell? ⟨pg, 0, none⟩ = some (.int .i64 (got + (s.vals.length : Int))))
            (first
              | go_keep
              | exact k0)
            (first
              | (go_at_call 48; refine (csenders w.heap.size w _ w.heap.size s L _ hX (fun p hp => by simp [hp]) HO.out.drew).mono ?_; rintro e w5 ⟨vr, Lr, rfl, hSr, hOr⟩; obtain ⟨ar, cr, rfl, _, _⟩ := hSr.form; have k0 : w5.cell? ⟨pg, 0, none⟩ = some (.int .i64 (got + (s.vals.length : Int))) := cell_of_get (hOr.get (pg, gobj (got + (s.vals.length : Int))) (by simp)) 0; rw [List.length_map]))
          all_goals
            go_wp2
            go_ret
            exact ⟨congrArg (fun b => Ending.returned (.bool b)) HFIN.out, hOr.below⟩

end Go.Proofs.Ytidnkienkdlmkaa
