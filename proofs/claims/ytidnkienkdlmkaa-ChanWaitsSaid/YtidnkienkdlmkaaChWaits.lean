/-
  The walk of shuttlelaw15.ChanWaits: it returns true. No condition.
-/
import Derived.Test.YtidnkienkdlmkaaChSet
import Derived.Test.YtidnkienkdlmkaaChAwake
import Derived.Test.YtidnkienkdlmkaaChWho
import Derived.Test.YtidnkienkdlmkaaIMapB
import Derived.Deep.RegionHeld3
import Derived.Deep.DeepCutAuto
import Derived.Deep.CutBlock
import Derived.Carry
namespace Go.Proofs.Ytidnkienkdlmkaa
open Go.RowKit Go.Sh

theorem kd {w : World} {a : Addr} {v : Value} (h : w.cell? a = some v) : w.drew.cell? a = some v := h
theorem kp {w : World} {a : Addr} {v : Value} {o : Obj} (h : w.cell? a = some v) : (w.alloc o).cell? a = some v := by
  rw [World.cell?_alloc_some _ _ _ (by rw [h]; rfl)]; exact h
theorem ks {w : World} {p a : Addr} {v u : Value} (h : w.cell? a = some v) (hne : p.block ≠ a.block) : (w.setCell p u).cell? a = some v := by
  rw [World.cell?_setCell_far _ _ _ _ hne]; exact h

def WaitRel (B : Nat) (w0 : World) (b bm N : Nat) (i : Value) (wr : World) : Prop :=
  ∃ (k : Nat) (s : CS) (ks : List Int) (o : Obj) (L : List (Nat × Obj)), k ≤ N ∧ i = .int .i64 k ∧ Cx b s L ∧ WInv s ∧ ks.Perm (KW s) ∧ MapIs (setK ks) o ∧ Sh.Own B w0 wr (L ++ [(bm, o)])

abbrev obox3 (d wh nn : Int) : Obj := Obj.cells #[.int .i64 d, .int .i64 wh, .int .i64 nn] 96 (0, 0)

def WakeOk (ks : List Int) (wh : Int) (r : CR) : Prop :=
  r.wakes.length ≤ 1000 ∧ ((addC r = true ∧ wh ∉ ks ∧ (KW r.st ++ r.wakes.map Wk.who).Perm (wh :: ks)) ∨ (addC r = false ∧ (KW r.st ++ r.wakes.map Wk.who).Perm ks))

theorem wakeOk_of {b : Nat} {s : CS} {L : List (Nat × Obj)} {ks : List Int} {wh : Int} {r : CR} (hX : Cx b s L) (hP : ks.Perm (KW s)) (hS : Stp s wh r) : WakeOk ks wh r := by
  obtain ⟨v1, v2, v3, L1, L2, L3, hC, _⟩ := hX
  have hl : (KW s).length ≤ 512 := by have := hC.l2; have := hC.l3; simp [KW]; omega
  refine ⟨?_, ?_⟩
  · rcases hS.2 with ⟨_, _, h⟩ | ⟨_, h⟩ <;> · have := h.length_eq; simp at this; omega
  · rcases hS.2 with ⟨h1, h2, h⟩ | ⟨h1, h⟩
    · exact .inl ⟨h1, fun hm => h2 (hP.mem_iff.1 hm), h.trans (hP.symm.cons wh)⟩
    · exact .inr ⟨h1, h.trans hP.symm⟩

def WCut2 (B : Nat) (w0 : World) (bm O Z : Nat) (d wh nn : Int) (r : CR) (wk : Value) (L Lk : List (Nat × Obj)) (wx : World) : Prop :=
  ∃ (ks : List Int) (o : Obj), MapIs (setK ks) o ∧ (KW r.st ++ r.wakes.map Wk.who).Perm ks ∧ Sh.Own B w0 wx ((Z, outO r.done r.v.t r.v.n r.fault wk) :: (O, obox3 d wh nn) :: (bm, o) :: (L ++ Lk))

def WkRel (B : Nat) (w0 : World) (bm : Nat) (r : CR) (L Lk : List (Nat × Obj)) (i : Value) (wx : World) : Prop :=
  ∃ (k : Nat) (ks : List Int) (o : Obj), k ≤ r.wakes.length ∧ i = .int .i64 k ∧ MapIs (setK ks) o ∧ (KW r.st ++ (r.wakes.drop k).map Wk.who).Perm ks ∧ Sh.Own B w0 wx ((bm, o) :: (L ++ Lk))

def WCut (B : Nat) (w0 : World) (b bm O Z : Nat) (d wh nn : Int) (s11 : Value) (wx : World) : Prop :=
  ∃ (r : CR) (ks : List Int) (o : Obj) (wk : Value) (Lk L : List (Nat × Obj)), s11 = .int .i64 r.err ∧ Cx b r.st L ∧ WInv r.st ∧ Sl 38 4 W4 wk r.wakes Lk ∧ MapIs (setK ks) o ∧ WakeOk ks wh r ∧
    Sh.Own B w0 wx ((Z, outO r.done r.v.t r.v.n r.fault wk) :: (O, obox3 d wh nn) :: (bm, o) :: (L ++ Lk))

theorem csend_v (B : Nat) (w0 : World) (b : Nat) (s : CS) (L F : List (Nat × Obj)) (who n : Int) (w : World) (hX : Cx b s L) (hO : Sh.Own B w0 w (L ++ F)) :
    Calls Try.prog 44 #[.pointer (some ⟨b, 0, none⟩), .int .i64 who, .agg #[.int .i64 1, .int .i64 n]] w (COutPost B w0 b F (sendC s who ⟨1, n⟩)) := csend B w0 b s L F who ⟨1, n⟩ w hX hO

theorem box3_cells {w : World} {O : Nat} {d wh nn : Int} (h : w.heap[O]? = some (obox3 d wh nn)) : w.cell? ⟨O, 0, none⟩ = some (.int .i64 d) ∧ w.cell? ⟨O, 1, none⟩ = some (.int .i64 wh) ∧ w.cell? ⟨O, 2, none⟩ = some (.int .i64 nn) :=
  ⟨cell_of_get h 0, cell_of_get h 1, cell_of_get h 2⟩

set_option maxRecDepth 100000 in
set_option maxHeartbeats 8000000 in
theorem waits12 (a : Int) (xs : List W3) (ao : Option Addr) (cap : Nat) (w : World) (ha : (Lit.int .u8 a).wf = true) (hR : Rd w C3 (.slice ao xs.length cap) xs) (_ : ∀ x ∈ xs, True) (hx : xs.length ≤ 9223372036854775807) (hcap : xs.length ≤ cap) :
    Calls Try.prog 12 #[.int .u8 a, .slice ao xs.length cap] w fun e w' => e = .returned (.bool true) ∧ Below w.heap.size w w' := by
  obtain ⟨ao', cap', he, r1⟩ := rd_c3 hR
  simp only [Value.slice.injEq, true_and] at he
  obtain ⟨rfl, rfl⟩ := he
  have R1 := Lib.hid r1
  have ha0 : 0 ≤ a ∧ a ≤ 255 := by
    have h1 : IntKind.u8.min = 0 := by decide
    have h2 : IntKind.u8.max = 255 := by decide
    simp [Lit.wf, h1, h2] at ha
    omega
  obtain ⟨N, hN1, hN2, hmin⟩ : ∃ N : Nat, N ≤ xs.length ∧ N ≤ 200 ∧ (if (200 : Int) < (xs.length : Int) then 200 else (xs.length : Int)) = (N : Int) := ⟨min xs.length 200, by omega, by omega, by split <;> omega⟩
  obtain ⟨room, hroom⟩ : ∃ room, room = a % 65 := ⟨_, rfl⟩
  have hr0 : 0 ≤ room := by omega
  have hr1 : room ≤ 64 := by omega
  have hmod : a % 65 = room := hroom.symm
  obtain ⟨ha0, ha1⟩ := ha0
  clear hR ha r1 hroom
  have hO0 := (Sh.Own.start w).alloc (cobj room (.slice none 0 0) (.slice none 0 0) (.slice none 0 0) false)
  have HMIN := Lib.hid hmin
  have hmk : ∀ w, (Instr.makeMap 104 none).run Try.prog w = .ok (.map (some w.heap.size)) (w.alloc (.map #[] 0)) := fun w => run_makeMap 104 w
  go_enter Try.func12, Try.ntmps12
  go_wp2_with (go_at_call 41; refine (cnew41 room _ hr0 hr1).mono ?_; rintro e w' ⟨rfl, rfl⟩)
  refine (awake42 _ w _ _ hO0).mono ?_
  rintro e w1 ⟨rfl, hO1⟩
  have hO2 := (hO1.alloc (.map #[] 0)).shuf [[_], [_]] [1, 0] rfl rfl
  go_wp2
  generalize hpg : w1.heap.size = bm at hO2 ⊢
  clear hmin hO0 hO1 hpg
  have HX1 := Lib.hid (Cx.new w.heap.size room hr0 hr1)
  go_loopw [42] (fun i wr => WaitRel w.heap.size w w.heap.size bm N i wr) (fun i _ => N - (intOf i).toNat)
  case atStart => exact ⟨0, _, [], _, _, Nat.zero_le _, rfl, HX1.out, ⟨fun h => absurd rfl h, fun h => absurd rfl h, fun _ => ⟨rfl, rfl⟩, hr0⟩, List.Perm.refl _, MapIs.new, hO2⟩
  case round =>
    clear hO2 HX1
    obtain ⟨k, s, ks, o, L, hk, rfl, hX, hI, hP, hM, hO⟩ := hrel
    by_cases hlt : k < N
    · obtain ⟨g, off, rfl, hgl, e0, e1, e2⟩ := R1.out k (by omega)
      have c0 := (hO.below.cell (p := ⟨g, off + k * 3, none⟩) hgl).trans e0
      have c1 := (hO.below.cell (p := ⟨g, off + k * 3 + 1, none⟩) hgl).trans e1
      have c2 := (hO.below.cell (p := ⟨g, off + k * 3 + 2, none⟩) hgl).trans e2
      have hkx : k < xs.length := by omega
      clear e0 e1 e2
      obtain ⟨⟨d, wh, nn⟩, hop⟩ : ∃ x, xs[k] = x := ⟨_, rfl⟩
      rw [hop] at c0 c1 c2
      dsimp only at c0 c1 c2
      clear hop
      have hO3 := ((hO.alloc (obox3 d wh nn)).allocAt outZ (n := wr.heap.size + 1) (by simp)).shuf [[_], [_], L, [_]] [2, 0, 1, 3] rfl rfl
      have HX := Lib.hid hX
      have HI := Lib.hid hI
      have HP := Lib.hid hP
      have HM := Lib.hid hM
      have HO3 := Lib.hid hO3
      clear hX hI hP hM hO
      go_upto_block 2 with fail
      obtain ⟨O, hOe⟩ : ∃ O, O = wr.heap.size := ⟨_, rfl⟩
      obtain ⟨Z, hZe⟩ : ∃ Z, Z = wr.heap.size + 1 := ⟨_, rfl⟩
      have hZO : Z ≠ O := by omega
      have hOZ : O ≠ Z := by omega
      rw [← hZe, ← hOe] at hO3
      rw [← hZe, ← hOe]
      clear HO3 c0 c1 c2 hOe hZe
      generalize ((wr.alloc (.cells #[.int .i64 d, .int .i64 wh, .int .i64 nn] 96)).alloc (.cells #[.bool false, .int .i64 0, .int .i64 0, .int .i64 0, .slice none 0 0] 33)) = W at hO3 ⊢
      obtain ⟨o0, o1, o2⟩ := box3_cells (hO3.get (O, obox3 d wh nn) (by simp [cat]))
      have ol := lt_of_get (hO3.get (O, obox3 d wh nn) (by simp [cat]))
      have hWO := World.new_ne W _ o0
      have HO := Lib.hid hO3
      have HA := Lib.hid ((hO3.junk (obox3 d wh nn)).junk (box30 ⟨1, nn⟩)).drew
      clear hO3
      go_cut [11] (fun s11 wx => WCut w.heap.size w w.heap.size bm O Z d wh nn s11 wx)
      case first =>
        by_cases hd : d = 0
        · subst hd
          go_upto_region 15 with fail
          go_region_held3 (fun w' => w'.cell? ⟨O, 0, none⟩ = some (.int .i64 0) ∧ w'.cell? ⟨O, 1, none⟩ = some (.int .i64 wh) ∧ w'.cell? ⟨O, 2, none⟩ = some (.int .i64 nn))
            (first
              | with_reducible exact ⟨k0, k1, k2⟩
              | ((refine ⟨?_, ?_, ?_⟩ <;> repeat (first | (with_reducible assumption) | (with_reducible refine kd ?_) | (with_reducible refine kp ?_) | (with_reducible refine ks ?_ ?_) | (dsimp only; omega))); done)
              | (go_keep; done)
              | fail "no keep")
            (first
              | (go_at_call 49; refine (value49 0 wh nn _).mono ?_; rintro e w2 ⟨rfl, rfl⟩)
              | (go_at_call 44; (with_reducible refine (csend_v w.heap.size w w.heap.size s L _ wh nn _ HX.out HA.out).mono ?_); rintro e w3 ⟨wk, Lk, L', rfl, hK, hX2, hO4⟩; obtain ⟨ak, ck, rfl, hkc, _⟩ := hK.form; obtain ⟨k0, k1, k2⟩ := box3_cells (hO4.get (O, obox3 0 wh nn) (List.mem_append_right _ (List.mem_append_right _ (.tail _ (.head _))))); have hO5 := hO4.shuf [L', Lk, [_], _] [2, 3, 0, 1] rfl rfl; obtain ⟨z0, z1, z2, z3, z4⟩ := z5 hO5.head; have zf := free_of_get hO5.head; have zl := lt_of_get hO5.head)
              | fail "no arm")
          all_goals
            go_wp2_with fail
            have hst := send_stp s wh ⟨1, nn⟩ HI.out
            have hwk := wakeOk_of HX.out HP.out hst
            go_meet
            exact ⟨sendC s wh ⟨1, nn⟩, ks, o, _, Lk, L', rfl, hX2, hst.1, hK, HM.out, hwk, out5 hO5 _ _ _ _ _⟩

        · have hd0 : (d == 0) = false := by simpa using hd
          have HO' := HO.out
          by_cases hd1 : d = 1
          · subst hd1
            go_wp2_with fail
            refine (crecv w.heap.size w w.heap.size s L _ wh _ HX.out HO').mono ?_
            rintro e w3 ⟨wk, Lk, L', rfl, hK, hX2, hO4⟩
            clear HO'
            obtain ⟨k0, k1, k2⟩ := box3_cells (hO4.get (O, obox3 1 wh nn) (List.mem_append_right _ (List.mem_append_right _ (.tail _ (.head _)))))
            have hO5 := hO4.shuf [L', Lk, [_], _] [2, 3, 0, 1] rfl rfl
            obtain ⟨z0, z1, z2, z3, z4⟩ := z5 hO5.head
            have zf := free_of_get hO5.head
            have zl := lt_of_get hO5.head
            obtain ⟨ak, ck, rfl, hkc, _⟩ := hK.form
            go_wp2_with fail
            have hst := recv_stp s wh HI.out
            have hwk := wakeOk_of HX.out HP.out hst
            go_meet
            exact ⟨recvC s wh, ks, o, _, Lk, L', rfl, hX2, hst.1, hK, HM.out, hwk, out5 hO5 _ _ _ _ _⟩

          · have hd10 : (d == 1) = false := by simpa using hd1
            by_cases hd2 : d = 2
            · subst hd2
              go_wp2_with fail
              refine (cclose w.heap.size w w.heap.size s L _ _ HX.out HO').mono ?_
              rintro e w3 ⟨wk, Lk, L', rfl, hK, hX2, hO4⟩
              clear HO'
              obtain ⟨k0, k1, k2⟩ := box3_cells (hO4.get (O, obox3 2 wh nn) (List.mem_append_right _ (List.mem_append_right _ (.tail _ (.head _)))))
              have hO5 := hO4.shuf [L', Lk, [_], _] [2, 3, 0, 1] rfl rfl
              obtain ⟨z0, z1, z2, z3, z4⟩ := z5 hO5.head
              have zf := free_of_get hO5.head
              have zl := lt_of_get hO5.head
              obtain ⟨ak, ck, rfl, hkc, _⟩ := hK.form
              go_wp2_with fail
              have hst := close_stp s wh HI.out
              have hwk := wakeOk_of HX.out HP.out hst
              go_meet
              exact ⟨closeC s, ks, o, _, Lk, L', rfl, hX2, hst.1, hK, HM.out, hwk, out5 hO5 _ _ _ _ _⟩

            · have hd20 : (d == 2) = false := by simpa using hd2
              go_wp2_with fail
              refine (cdrop w.heap.size w w.heap.size s L _ wh _ HX.out HO').mono ?_
              rintro e w3 ⟨rfl, L', hX2, hO4⟩
              clear HO'
              rcases drop_stp s wh HI.out with ⟨hw, ⟨h0, hp⟩ | ⟨h6, hs⟩⟩
              · rw [h0]
                have hO5 := hO4.shuf [L', [_], [_], [_]] [3, 1, 2, 0] rfl rfl
                obtain ⟨k0, k1, k2⟩ := box3_cells (hO5.get (O, obox3 d wh nn) (by simp [cat]))
                have kl := lt_of_get (hO5.get (O, obox3 d wh nn) (by simp [cat]))
                obtain ⟨o', hrun, hm'⟩ := run_delete_kvs (P := Try.prog) (w := w3) (b := bm) Try.underlying104 Try.underlying3 hO5.head HM.out wh #[104, 3] rfl 0
                rw [kdel_set] at hm'
                have hO6 := (Own.setObj hO5 o').shuf [[_], [_], _] [1, 0, 2] rfl rfl
                generalize hw4 : ({ w3 with heap := w3.heap.setIfInBounds bm o' } : World) = w4 at hrun hO6
                have hO7 := hO6.shuf [[_], [_], [_], L'] [0, 2, 1, 3] rfl rfl
                obtain ⟨z0, z1, z2, z3, z4⟩ := z5 hO7.head
                have zf := free_of_get hO7.head
                have zl := lt_of_get hO7.head
                have hO8 := Own.setTo hO7 0 (.bool true) rfl
                have hwk : WakeOk (ks.erase wh) wh ⟨true, ⟨0, 0⟩, 0, [], 0, (dropC s wh).2⟩ := ⟨by simp, .inr ⟨rfl, by
                  have h1 := (HP.out.trans hp).erase wh
                  rw [List.erase_cons_head] at h1
                  simpa using h1.symm⟩⟩
                clear hw4 hO4 hO5 hO6 hO7
                go_wp2_with fail
                go_meet
                exact ⟨⟨true, ⟨0, 0⟩, 0, [], 0, (dropC s wh).2⟩, ks.erase wh, o', .slice none 0 0, [], L', rfl, hX2, hw, Sl.nil, hm', hwk, by simpa [cat] using hO8⟩
              · rw [h6]
                have hO7 := hO4.shuf [L', [_], [_], [_]] [1, 2, 3, 0] rfl rfl
                obtain ⟨z0, z1, z2, z3, z4⟩ := z5 hO7.head
                have zf := free_of_get hO7.head
                have zl := lt_of_get hO7.head
                have hO8 := Own.setTo hO7 0 (.bool true) rfl
                have hwk : WakeOk ks wh ⟨true, ⟨0, 0⟩, 0, [], 0, (dropC s wh).2⟩ := ⟨by simp, .inr ⟨rfl, by
                  have h1 := HP.out
                  rw [hs]
                  simpa using h1.symm⟩⟩
                obtain ⟨k0, k1, k2⟩ := box3_cells (hO7.get (O, obox3 d wh nn) (by simp [cat]))
                have kl := lt_of_get (hO7.get (O, obox3 d wh nn) (by simp [cat]))
                clear hO4 hO7
                go_wp2_with fail
                go_meet
                exact ⟨⟨true, ⟨0, 0⟩, 0, [], 0, (dropC s wh).2⟩, ks, o, .slice none 0 0, [], L', rfl, hX2, hw, Sl.nil, HM.out, hwk, by simpa [cat] using hO8⟩
      case rest =>
        clear HX HI HP HM HO HA o0 o1 o2 ol hWO
        obtain ⟨r, ks, o, wk, Lk, L, rfl, hX, hW, hK, hM, hwk, hO⟩ := hcut
        obtain ⟨z0, z1, z2, z3, z4⟩ := z5 hO.head
        have zl := lt_of_get hO.head
        obtain ⟨o0, o1, o2⟩ := box3_cells (hO.get (O, obox3 d wh nn) (by simp))
        have ol := lt_of_get (hO.get (O, obox3 d wh nn) (by simp))
        have HX := Lib.hid hX
        have HW := Lib.hid hW
        have HK := Lib.hid hK
        have HM := Lib.hid hM
        have HWK := Lib.hid hwk
        have HO := Lib.hid hO
        clear hX hW hK hM hwk hO
        go_upto_region 20 with fail
        go_cut [95] (fun s95 wx => s95 = .bool (addC r) ∧ Sh.Own w.heap.size w wx ((Z, outO r.done r.v.t r.v.n r.fault wk) :: (O, obox3 d wh nn) :: (bm, o) :: (L ++ Lk)))
        case first =>
          by_cases he : r.err = 0
          · have he' : (r.err == 0) = true := by simpa using he
            have HE := Lib.hid he
            clear he
            cases hdn : r.done with
            | true =>
              rw [hdn] at z0
              have hA : addC r = false := by simp [addC, hdn]
              clear hdn
              go_wp2_with fail
              go_meet
              exact ⟨by rw [hA], HO.out⟩
            | false =>
              rw [hdn] at z0
              have hA : addC r = (r.fault == 0) := by simp [addC, hdn, HE.out]
              clear hdn
              go_wp2_with fail
              go_meet
              exact ⟨by rw [hA], HO.out⟩
          · have he' : (r.err == 0) = false := by simpa using he
            have hA : addC r = false := by simp [addC, he]
            go_wp2_with fail
            go_meet
            exact ⟨by rw [hA], HO.out⟩
        case rest =>
          obtain ⟨rfl, hO⟩ := hcut
          clear z0 z1 z2 z3 z4 zl o0 o1 o2 ol HO
          obtain ⟨z0, z1, z2, z3, z4⟩ := z5 hO.head
          have zl := lt_of_get hO.head
          obtain ⟨o0, o1, o2⟩ := box3_cells (hO.get (O, obox3 d wh nn) (by simp))
          have ol := lt_of_get (hO.get (O, obox3 d wh nn) (by simp))
          have HO := Lib.hid hO
          clear hO
          go_upto_if 95 with fail
          go_cut [] (fun wx => WCut2 w.heap.size w bm O Z d wh nn r wk L Lk wx)
          case first =>
            cases hA : addC r with
            | false =>
              have HA := Lib.hid hA
              clear hA
              go_wp2_with fail
              go_meet
              exact ⟨ks, o, HM.out, by rcases HWK.out.2 with ⟨h, _⟩ | ⟨_, h⟩; · rw [HA.out] at h; cases h
                                       · exact h, HO.out⟩
            | true =>
              have HA := Lib.hid hA
              clear hA
              have hwn : wh ∉ ks := by
                rcases HWK.out.2 with ⟨_, h, _⟩ | ⟨h, _⟩
                · exact h
                · rw [HA.out] at h; cases h
              have hpp : (KW r.st ++ r.wakes.map Wk.who).Perm (ks ++ [wh]) := by
                rcases HWK.out.2 with ⟨_, _, h⟩ | ⟨h, _⟩
                · exact h.trans (List.perm_append_comm (l₁ := [wh]) (l₂ := ks))
                · rw [HA.out] at h; cases h
              obtain ⟨o', w4, hrun, hM4, hO4, hsz⟩ := set_put (HO.out.shuf [[_], [_], [_], _] [2, 0, 1, 3] rfl rfl) HM.out wh hwn
              have HPP := Lib.hid hpp
              have HM4 := Lib.hid hM4
              have HO4 := Lib.hid (hO4.shuf [[_], [_], [_], L ++ Lk] [1, 2, 0, 3] rfl rfl)
              clear hwn hpp hM4 hO4 hsz
              go_wp2_with fail
              go_meet
              exact ⟨ks ++ [wh], o', HM4.out, HPP.out, HO4.out⟩
          case rest =>
            obtain ⟨ks2, o', hM2, hP2, hO2⟩ := hcut
            have hlw : r.wakes.length ≤ 1000 := HWK.out.1
            clear z0 z1 z2 z3 z4 zl o0 o1 o2 ol HO HM HWK
            obtain ⟨z0, z1, z2, z3, z4⟩ := z5 hO2.head
            have zl := lt_of_get hO2.head
            obtain ⟨ak, ck, rfl, _, _⟩ := HK.out.form
            have HRD := Lib.hid (show ∀ (wr : World), (∀ p ∈ Lk, wr.heap[p.1]? = some p.2) → ∀ i (hi : i < r.wakes.length), ∃ g off, ak = some ⟨g, off, none⟩ ∧ g < wr.heap.size ∧
                wr.cell? ⟨g, off + i * 4, none⟩ = some (.int .i64 r.wakes[i].who) ∧ wr.cell? ⟨g, off + i * 4 + 1, none⟩ = some (.int .i64 r.wakes[i].t) ∧ wr.cell? ⟨g, off + i * 4 + 2, none⟩ = some (.int .i64 r.wakes[i].n) ∧ wr.cell? ⟨g, off + i * 4 + 3, none⟩ = some (.int .i64 r.wakes[i].f) from fun wr hg i hi => by
              obtain ⟨a', c', e1, e2⟩ := rd_wakes (Sl_rd (w := wr) HK.out hg)
              simp only [Value.slice.injEq, true_and] at e1
              obtain ⟨rfl, rfl⟩ := e1
              obtain ⟨g, off, rfl, hg, hc⟩ := e2 i hi
              exact ⟨g, off, rfl, hg, hc i hi⟩)
            have HO2 := Lib.hid hO2.tail.tail
            have HP2 := Lib.hid hP2
            have HM2 := Lib.hid hM2
            clear hO2 hP2 hM2
            go_wp2
            go_loopw [102] (fun i wr => WkRel w.heap.size w bm r L Lk i wr) (fun i _ => r.wakes.length - (intOf i).toNat)
            case atStart => exact ⟨0, ks2, o', Nat.zero_le _, rfl, HM2.out, by simpa using HP2.out, HO2.out⟩
            case round =>
              clear z0 z1 z2 z3 z4 zl HO2 HP2 HM2
              obtain ⟨j, kj, oj, hj, rfl, hM, hP, hO⟩ := hrel
              by_cases hlj : j < r.wakes.length
              · obtain ⟨g, off, rfl, hgl, k0, k1, k2, k3⟩ := HRD.out _ (fun p hp => hO.get p (by simp [hp])) j hlj
                obtain ⟨hin, hnx⟩ := perm_next hlj hP
                have hji : (j : Int) < r.wakes.length := by omega
                obtain ⟨⟨kw, kt, kn, kf⟩, hkx⟩ : ∃ x, r.wakes[j] = x := ⟨_, rfl⟩
                rw [hkx] at k0 k1 k2 k3 hin hnx
                dsimp only at k0 k1 k2 k3 hin hnx
                clear hkx
                have hO3 := hO.junk (.cells #[.int .i64 kw, .int .i64 kt, .int .i64 kn, .int .i64 kf] 38)
                have hget := set_get hO3 hM kw hin
                obtain ⟨o4, w4, hrun, hM4, hO4, hsz⟩ := set_del hO3 hM kw
                have HNX := Lib.hid hnx
                have HM4 := Lib.hid hM4
                have HO4 := Lib.hid hO4
                clear hM4 hO4 hsz hnx hin hM hP hO hO3
                go_wp2
                exact ⟨⟨j + 1, kj.erase kw, o4, by omega, by go_num, HM4.out, HNX.out, HO4.out⟩, by simp [intOf]; omega⟩
              · obtain rfl : j = r.wakes.length := by omega
                have hpk : (KW r.st).Perm kj := by simpa using hP
                have HPK := Lib.hid hpk
                have HM := Lib.hid hM
                have HO := Lib.hid hO
                clear hM hO hP hpk HK HRD
                go_upto_region 30 with (first | (go_at_call 48; (with_reducible refine (csenders w.heap.size w ((bm, oj) :: (L ++ Lk)) w.heap.size r.st L _ HX.out (fun p hp => by simp [hp]) HO.out).mono ?_); rintro e w5 ⟨vs, Ls, rfl, hSs, hOs⟩; obtain ⟨sa, cs, rfl, _, _⟩ := hSs.form; rw [List.length_map]) | (go_at_call 52; (with_reducible refine (creceivers w.heap.size w (Ls ++ ((bm, oj) :: (L ++ Lk))) w.heap.size r.st L _ HX.out (fun p hp => by simp [hp]) hOs).mono ?_); rintro e w6 ⟨vr, Lr, rfl, hSr, hOr⟩; obtain ⟨ar, cr, rfl, _, _⟩ := hSr.form; rw [List.length_map]) | fail)
                obtain ⟨hsum, hvr, hways⟩ := HW.out.ways HPK.out
                obtain ⟨hl1, hl2, hl3⟩ : r.st.vals.length ≤ 64 ∧ r.st.snd.length ≤ 256 ∧ r.st.rcv.length ≤ 256 := by
                  obtain ⟨_, _, _, _, _, _, hC, _⟩ := HX.out
                  exact ⟨hC.l1, hC.l2, hC.l3⟩
                have hg := Lib.hid (show ∀ p ∈ L, w6.heap[p.1]? = some p.2 from fun p hp => hOr.get p (by simp [hp]))
                have hlen := set_len ((hOr.shuf [Lr, Ls, [_], L ++ Lk] [2, 0, 1, 3] rfl rfl)) HM.out 3
                have hsb : (((r.st.snd.length : Int) + (r.st.rcv.length : Int)) != (kj.length : Int)) = false := by rw [hsum]; simp
                have HSUM := Lib.hid hsum
                have HSs := Lib.hid hSs
                have HSr := Lib.hid hSr
                have HOr := Lib.hid hOr
                clear hsum hSs hSr hOr hOs HO
                go_cut [172] (fun s172 wx => s172 = .bool false ∧ Sh.Own w.heap.size w wx (Lr ++ (Ls ++ ((bm, oj) :: (L ++ Lk)))))
                case first =>
                  rcases hways with ⟨h1, h2, h3, h4⟩ | ⟨h1, h2, h3, h4⟩ | ⟨h1, h2, h4⟩ | ⟨h1, h2, h4⟩
                  · have H4 := Lib.hid h4
                    clear h4
                    go_wp2_with (first | (go_at_call 53; refine (clen w.heap.size r.st L _ HX.out hg.out).mono ?_; rintro e w' ⟨rfl, rfl⟩) | (go_at_call 54; refine (croom w.heap.size r.st L _ HX.out hg.out).mono ?_; rintro e w' ⟨rfl, rfl⟩) | (go_at_call 55; refine (cclosed w.heap.size r.st L _ HX.out hg.out).mono ?_; rintro e w' ⟨rfl, rfl⟩; rw [H4.out]))
                    go_meet
                    exact ⟨congrArg Value.bool (by simp only [Bool.or_eq_false_iff, decide_eq_false_iff_not]; omega), HOr.out⟩
                  · have H4 := Lib.hid h4
                    have hvb : ((r.st.vals.length : Int) != r.st.room) = false := by rw [h3]; simp
                    have H3 := Lib.hid h3
                    clear h4 h3
                    go_wp2_with (first | (go_at_call 53; refine (clen w.heap.size r.st L _ HX.out hg.out).mono ?_; rintro e w' ⟨rfl, rfl⟩) | (go_at_call 54; refine (croom w.heap.size r.st L _ HX.out hg.out).mono ?_; rintro e w' ⟨rfl, rfl⟩) | (go_at_call 55; refine (cclosed w.heap.size r.st L _ HX.out hg.out).mono ?_; rintro e w' ⟨rfl, rfl⟩; rw [H4.out]))
                    go_meet
                    exact ⟨congrArg Value.bool (by simp; omega), HOr.out⟩
                  · have H4 := Lib.hid h4
                    clear h4
                    go_wp2_with (first | (go_at_call 53; refine (clen w.heap.size r.st L _ HX.out hg.out).mono ?_; rintro e w' ⟨rfl, rfl⟩) | (go_at_call 54; refine (croom w.heap.size r.st L _ HX.out hg.out).mono ?_; rintro e w' ⟨rfl, rfl⟩) | (go_at_call 55; refine (cclosed w.heap.size r.st L _ HX.out hg.out).mono ?_; rintro e w' ⟨rfl, rfl⟩; rw [H4.out]))
                    go_meet
                    exact ⟨congrArg Value.bool (by simp; omega), HOr.out⟩
                  · have H4 := Lib.hid h4
                    clear h4
                    go_wp2_with (first | (go_at_call 53; refine (clen w.heap.size r.st L _ HX.out hg.out).mono ?_; rintro e w' ⟨rfl, rfl⟩) | (go_at_call 54; refine (croom w.heap.size r.st L _ HX.out hg.out).mono ?_; rintro e w' ⟨rfl, rfl⟩) | (go_at_call 55; refine (cclosed w.heap.size r.st L _ HX.out hg.out).mono ?_; rintro e w' ⟨rfl, rfl⟩; rw [H4.out]))
                    go_meet
                    exact ⟨congrArg Value.bool (by simp; omega), HOr.out⟩
                case rest =>
                  obtain ⟨rfl, hO⟩ := hcut
                  clear hlen hsb hvr hways hg HOr
                  have hO2 := Lib.hid (hO.alloc (.cells #[.slice sa r.st.snd.length cs, .slice ar r.st.rcv.length cr] 26))
                  clear hO
                  have HKW := Lib.hid (show r.st.snd.map W3.who ++ r.st.rcv.map W3.who = KW r.st from rfl)
                  have hlk : (KW r.st).length ≤ 1000 := by rw [← HKW.out]; simp; omega
                  go_wp2_with (go_at_call 56; (with_reducible refine (concat56 w.heap.size w _ _ (.slice sa (r.st.snd.map W3.who).length cs) (.slice ar (r.st.rcv.map W3.who).length cr) (r.st.snd.map W3.who) (r.st.rcv.map W3.who) Ls Lr _ (by rw [List.length_map, List.length_map]; exact List.mem_cons_self) HSs.out (fun p hp => by simp [hp]) HSr.out (fun p hp => by simp [hp]) hO2.out (by simp; omega) (by simp; omega)).mono ?_); rintro e w7 ⟨vc, Lc, rfl, hSc, hOc⟩; rw [HKW.out] at hSc; obtain ⟨ac, cc, rfl, _, _⟩ := hSc.form)
                  have HRI := Lib.hid (show ∀ (wr : World), (∀ p ∈ Lc, wr.heap[p.1]? = some p.2) → ∀ i (hi : i < (KW r.st).length), ∃ g off, ac = some ⟨g, off, none⟩ ∧ g < wr.heap.size ∧ wr.cell? ⟨g, off + i, none⟩ = some (.int .i64 (KW r.st)[i]) from fun wr hg i hi => by
                    obtain ⟨a', c', e1, e2⟩ := rd_i (Sl_rd (w := wr) hSc hg)
                    simp only [Value.slice.injEq, true_and] at e1
                    obtain ⟨rfl, rfl⟩ := e1
                    exact e2 i hi)
                  have HOc := Lib.hid (show Sh.Own w.heap.size w w7 (Lc ++ ((bm, oj) :: (L ++ Lk))) from (hOc.shuf [Lc, [_], Lr, Ls, (bm, oj) :: (L ++ Lk)] [0, 4, 1, 2, 3] rfl rfl).sub (by simp [cat]))
                  clear hSc hOc hO2
                  go_loopw [178] (fun i wr => ∃ j : Nat, j ≤ (KW r.st).length ∧ i = .int .i64 j ∧ Sh.Own w.heap.size w wr (Lc ++ ((bm, oj) :: (L ++ Lk)))) (fun i _ => (KW r.st).length - (intOf i).toNat)
                  case atStart => exact ⟨0, Nat.zero_le _, rfl, HOc.out⟩
                  case round =>
                    clear HOc
                    obtain ⟨j, hj, rfl, hO⟩ := hrel
                    by_cases hlj : j < (KW r.st).length
                    · obtain ⟨g, off, rfl, hgl, k0⟩ := HRI.out _ (fun p hp => hO.get p (by simp [hp])) j hlj
                      have hji : (j : Int) < (KW r.st).length := by omega
                      have hget := set_get (hO.shuf [Lc, [_], L ++ Lk] [1, 0, 2] rfl rfl) HM.out ((KW r.st)[j]) (HPK.out.mem_iff.1 (List.getElem_mem hlj))
                      have HO := Lib.hid hO
                      clear hO
                      go_wp2
                      exact ⟨⟨j + 1, by omega, by go_num, HO.out⟩, by simp [intOf]; omega⟩
                    · obtain rfl : j = (KW r.st).length := by omega
                      have HO := Lib.hid (show Sh.Own w.heap.size w wr (L ++ [(bm, oj)]) from (hO.shuf [Lc, [_], L, Lk] [2, 1, 0, 3] rfl rfl).sub (by simp [cat]))
                      clear hO HRI
                      go_wp2
                      exact ⟨⟨k + 1, r.st, kj, oj, L, by omega, by go_num, HX.out, HW.out, HPK.out.symm, HM.out, HO.out⟩, by simp [intOf]; omega⟩
    · go_wp2
      go_ret
      exact ⟨rfl, hO.below⟩

end Go.Proofs.Ytidnkienkdlmkaa
