/-
  Contract of Close. Conditions: at most 64 values, 256 waiters.
-/
import Derived.Test.YtidnkienkdlmkaaChRecv
import Derived.Test.YtidnkienkdlmkaaChCat
import Derived.Test.YtidnkienkdlmkaaSame
import Derived.Deep.RegionHeld3
import Derived.Deep.DeepCutAuto
namespace Go.Proofs.Ytidnkienkdlmkaa
open Go.RowKit Go.Sh
attribute [local go_sem ↓] Go.wp_at_zero Go.wp_at_succ

theorem Try.info38 : (Try.prog.info? 38).map (fun i => (i.zero, i.size, i.bytes)) = some (some (.agg #[.int .i64 0, .int .i64 0, .int .i64 0, .int .i64 0]), 4, 32) := by kernel_rfl
theorem W4_one (x : Wk) : ∀ u ∈ W4 x, u.oneCell' = true := fun u h => by simp at h; rcases h with rfl | rfl | rfl | rfl <;> rfl

def wakeC (y : W3) : Wk := ⟨y.who, 0, 0, 11⟩

def closeC (s : CS) : CR :=
  if s.shut = true then ⟨false, ⟨0, 0⟩, 11, [], 0, s⟩ else ⟨true, ⟨0, 0⟩, 0, (s.rcv ++ s.snd).map wakeC, 0, ⟨s.room, s.vals, [], [], true⟩⟩

abbrev outX (wk : Value) : Obj := Obj.cells #[.bool true, .int .i64 0, .int .i64 0, .int .i64 0, wk] 33 (0, 0)

def CloseRel (B : Nat) (w0 : World) (X : Nat) (F : List (Nat × Obj)) (xs : List W3) (i : Value) (wr : World) : Prop :=
  ∃ (k : Nat) (wk : Value) (Lo : List (Nat × Obj)), k ≤ xs.length ∧ i = .int .i64 k ∧ Sl 38 4 W4 wk ((xs.take k).map wakeC) Lo ∧ Own B w0 wr (Lo ++ (X, outX wk) :: F)

theorem own_close {B : Nat} {w0 w : World} {c : Nat × Obj} {L1 L2 L3 R : List (Nat × Obj)} (h : Own B w0 w (c :: (L1 ++ (L2 ++ (L3 ++ R))))) : Own B w0 w ((c :: (L1 ++ ([] ++ []))) ++ (L2 ++ L3)) := by
  have h2 := h.sub (L' := c :: (L1 ++ (L2 ++ L3))) (((List.Sublist.refl L1).append ((List.Sublist.refl L2).append (List.sublist_append_left L3 R))).cons_cons c)
  simpa using h2

set_option maxRecDepth 100000 in
set_option maxHeartbeats 4000000 in
theorem cclose_shut (B : Nat) (w0 : World) (b : Nat) (s : CS) (L F : List (Nat × Obj)) (w : World) (hX : Cx b s L) (hO : Own B w0 w (L ++ F)) (h2 : s.shut = true) :
    Calls Try.prog 50 #[.pointer (some ⟨b, 0, none⟩)] w (COutPost B w0 b F (closeC s)) := by
  have HR := Lib.hid (show closeC s = ⟨false, ⟨0, 0⟩, 11, [], 0, s⟩ by simp [closeC, h2])
  have hX' := hX
  obtain ⟨v1, v2, v3, L1, L2, L3, hC, rfl⟩ := hX'
  have hcb := hO.get (b, cobj s.room v1 v2 v3 s.shut) (by simp)
  have c0 : w.cell? ⟨b, 0, none⟩ = some (.bool true) := cell_of_get hcb 0
  have c5 : w.cell? ⟨b, 5, none⟩ = some (.bool true) := by rw [← h2]; exact cell_of_get hcb 5
  have hbl := lt_of_get hcb
  have C0 := Lib.hid (show (w.alloc outZ).cell? ⟨b, 0, none⟩ = some (.bool true) by rw [World.cell?_alloc_some _ _ _ (by rw [c0]; rfl)]; exact c0)
  clear h2 hcb
  go_enter Try.func50, Try.ntmps50
  go_wp2_with (first | (go_at_call 88; refine (cnone b true _ C0.out).mono ?_; rintro e w' ⟨rfl, rfl⟩) | (go_at_call 81; refine (cshut _).mono ?_; rintro e w5 ⟨rfl, rfl⟩))
  have hO9 := (hO.alloc (.cells #[.bool false, .int .i64 0, .int .i64 0, .int .i64 11, .slice none 0 0] 33)).junk (.cells #[.bool false, .int .i64 0, .int .i64 0, .int .i64 11, .slice none 0 0] 33)
  obtain ⟨r0, r1, r2, r3, r4⟩ := z5 hO9.head
  have HO9 := Lib.hid hO9.tail
  clear hO9
  refine bodyPost_ret (v := .tuple #[outV false 0 0 11 (.slice none 0 0), .int .i64 0]) (by simp [results, Try.results50, go_sem, r0, r1, r2, r3, r4]) rfl ?_
  exact cout_mk _ HR rfl Sl.nil hX HO9.out

set_option maxRecDepth 100000 in
set_option maxHeartbeats 4000000 in
theorem cclose_open (B : Nat) (w0 : World) (b : Nat) (s : CS) (L F : List (Nat × Obj)) (w : World) (hX : Cx b s L) (hO : Own B w0 w (L ++ F)) (h2 : s.shut = false) :
    Calls Try.prog 50 #[.pointer (some ⟨b, 0, none⟩)] w (COutPost B w0 b F (closeC s)) := by
  obtain ⟨i0, hi, hz0, hz1, hz2⟩ := info_parts Try.info38
  have HR := Lib.hid (show closeC s = ⟨true, ⟨0, 0⟩, 0, (s.rcv ++ s.snd).map wakeC, 0, ⟨s.room, s.vals, [], [], true⟩⟩ by simp [closeC, h2])
  obtain ⟨v1, v2, v3, L1, L2, L3, hC, rfl⟩ := hX
  have hcb := hO.get (b, cobj s.room v1 v2 v3 s.shut) (by simp)
  obtain ⟨a2, p2, hv2, _, _⟩ := hC.s2.form
  obtain ⟨a3, p3, hv3, _, _⟩ := hC.s3.form
  have c0 : w.cell? ⟨b, 0, none⟩ = some (.bool true) := cell_of_get hcb 0
  have c3 : w.cell? ⟨b, 3, none⟩ = some (.slice a2 s.snd.length p2) := by rw [← hv2]; exact cell_of_get hcb 3
  have c4 : w.cell? ⟨b, 4, none⟩ = some (.slice a3 s.rcv.length p3) := by rw [← hv3]; exact cell_of_get hcb 4
  have c5 : w.cell? ⟨b, 5, none⟩ = some (.bool false) := by rw [← h2]; exact cell_of_get hcb 5
  have hbl := lt_of_get hcb
  have hbf := free_of_get hcb
  have hbl1 : b < w.heap.size + 1 := by omega
  have C0 := Lib.hid (show (w.alloc outZ).cell? ⟨b, 0, none⟩ = some (.bool true) by rw [World.cell?_alloc_some _ _ _ (by rw [c0]; rfl)]; exact c0)
  have HV2 := Lib.hid hv2
  have HV3 := Lib.hid hv3
  clear h2 hcb hv2 hv3 c0
  go_enter Try.func50, Try.ntmps50
  go_wp2_with (go_at_call 88; refine (cnone b true _ C0.out).mono ?_; rintro e w' ⟨rfl, rfl⟩)
  go_upto_region 7 with fail
  have hO2 : Own B w0 (((w.setCell ⟨b, 5, none⟩ (.bool true)).alloc outZ).alloc (outX (.slice none 0 0))) ((w.heap.size + 1, outX (.slice none 0 0)) :: (w.heap.size, outZ) :: (((b, cobj s.room v1 v2 v3 true) :: (L1 ++ (L2 ++ L3))) ++ F)) :=
    (((hO.setTo 5 (.bool true) rfl).allocAt outZ (n := w.heap.size) (by simp)).allocAt (outX (.slice none 0 0)) (n := w.heap.size + 1) (by simp))
  have hO3 := own_flat2 hO2
  obtain ⟨X, hX⟩ : ∃ X, X = w.heap.size + 1 := ⟨_, rfl⟩
  obtain ⟨Z, hZ⟩ : ∃ Z, Z = w.heap.size := ⟨_, rfl⟩
  rw [← hX, ← hZ] at hO3
  rw [← hX, ← hZ]
  clear hO2 hO c3 c4 c5 hbl hbf hbl1 C0 hX hZ
  generalize (((w.setCell ⟨b, 5, none⟩ (.bool true)).alloc outZ).alloc (outX (.slice none 0 0))) = W at hO3 ⊢
  have hcb := hO3.get (b, cobj s.room v1 v2 v3 true) (by simp)
  have c3 : W.cell? ⟨b, 3, none⟩ = some (.slice a2 s.snd.length p2) := by rw [← HV2.out]; exact cell_of_get hcb 3
  have c4 : W.cell? ⟨b, 4, none⟩ = some (.slice a3 s.rcv.length p3) := by rw [← HV3.out]; exact cell_of_get hcb 4
  have hbl := lt_of_get hcb
  have hcn := World.new_ne W _ c3
  clear hcb
  have HO4 := Lib.hid ((hO3.alloc (.cells #[.slice a3 s.rcv.length p3, .slice a2 s.snd.length p2] 109)).drew)
  have l2 := hC.l2
  have l3 := hC.l3
  obtain ⟨xs, hxs⟩ : ∃ xs, xs = s.rcv ++ s.snd := ⟨_, rfl⟩
  have lxs : xs.length ≤ 512 := by rw [hxs]; simp; omega
  have HXS := Lib.hid hxs
  rw [← hxs] at HR
  clear hxs
  go_cut [30, 31, 32] (fun s30 s31 s32 wx => ∃ v Lv, s30 = v ∧ s31 = .int .i64 xs.length ∧ s32 = .int .i64 0 ∧ Sl 136 3 C3 v xs Lv ∧ Own B w0 wx (Lv ++ (X, outX (.slice none 0 0)) :: (Z, outZ) :: (b, cobj s.room v1 v2 v3 true) :: (L1 ++ (L2 ++ (L3 ++ F)))))
  case first =>
    clear hO3
    go_region_held3 (fun w' => w'.cell? ⟨b, 3, none⟩ = some (.slice a2 s.snd.length p2) ∧ w'.cell? ⟨b, 4, none⟩ = some (.slice a3 s.rcv.length p3))
      (first
        | with_reducible exact ⟨k0, k1⟩
        | (go_keep; done)
        | fail "no keep")
      (first
        | (go_at_call 90; (with_reducible refine (concat90 B w0 _ W.heap.size (.slice a3 s.rcv.length p3) (.slice a2 s.snd.length p2) s.rcv s.snd L3 L2 _ List.mem_cons_self (by rw [← HV3.out]; exact hC.s3) (fun p hp => by simp [hp]) (by rw [← HV2.out]; exact hC.s2) (fun p hp => by simp [hp]) HO4.out (by omega) (by omega)).mono ?_); rintro e w3 ⟨v, Lv, rfl, hSv, hO5⟩; rw [← HXS.out] at hSv; have hob := hO5.get (b, cobj s.room v1 v2 v3 true) (by simp); have k0 : w3.cell? ⟨b, 3, none⟩ = some (.slice a2 s.snd.length p2) := (by rw [← HV2.out]; exact cell_of_get hob 3); have k1 : w3.cell? ⟨b, 4, none⟩ = some (.slice a3 s.rcv.length p3) := (by rw [← HV3.out]; exact cell_of_get hob 4); obtain ⟨va, vc, rfl, hvc, _⟩ := hSv.form; clear hob)
        | fail "no arm")
    all_goals
      go_wp2_with fail
      go_meet
      exact ⟨_, Lv, rfl, rfl, rfl, hSv, (hO5.shuf [Lv, [_], _] [1, 0, 2] rfl rfl).tail⟩
  case rest =>
    obtain ⟨v, Lv, rfl, rfl, rfl, hSv, hO5⟩ := hcut
    obtain ⟨va, vc, rfl, hvc, _⟩ := hSv.form
    clear hO3 c3 c4 hbl hcn
    have HRD := Lib.hid (show ∀ wr Lo wk, Own B w0 wr (Lo ++ (X, outX wk) :: (Lv ++ (Z, outZ) :: (b, cobj s.room v1 v2 v3 true) :: (L1 ++ (L2 ++ (L3 ++ F))))) → ∀ i (hi : i < xs.length), ∃ g off, va = some ⟨g, off, none⟩ ∧ g < wr.heap.size ∧ wr.cell? ⟨g, off + i * 3, none⟩ = some (.int .i64 xs[i].who) ∧ wr.cell? ⟨g, off + i * 3 + 1, none⟩ = some (.int .i64 xs[i].t) ∧ wr.cell? ⟨g, off + i * 3 + 2, none⟩ = some (.int .i64 xs[i].n) by
      intro wr Lo wk h i hi
      obtain ⟨ao', cap', he, hc⟩ := rd_c3 (Sl_rd (w := wr) hSv (fun p hp => h.get p (by simp [hp])))
      simp only [Value.slice.injEq, true_and] at he
      obtain ⟨rfl, rfl⟩ := he
      exact hc i hi)
    have hO6 := hO5.shuf [Lv, [_], _] [1, 0, 2] rfl rfl
    have HSV := Lib.hid hSv
    have HO6 := Lib.hid hO6
    clear hSv hO5 hO6
    go_wp2
    go_loopw [32] (fun i wr => CloseRel B w0 X (Lv ++ (Z, outZ) :: (b, cobj s.room v1 v2 v3 true) :: (L1 ++ (L2 ++ (L3 ++ F)))) xs i wr) (fun i _ => xs.length - (intOf i).toNat)
    case atStart => exact ⟨0, _, [], Nat.zero_le _, rfl, by simpa using Sl.nil, HO6.out⟩
    case round =>
      obtain ⟨k, wk, Lo, hk, rfl, hS, hO⟩ := hrel
      obtain ⟨so, sc, rfl, hsc, _⟩ := hS.form
      obtain ⟨ys, hys⟩ : ∃ ys, ys = (xs.take k).map wakeC := ⟨_, rfl⟩
      rw [← hys] at hS hsc hO
      have hlk : ys.length ≤ 1000 := by rw [hys]; simp; omega
      have HYS := Lib.hid hys
      clear hys
      have hx := hO.get (X, outX (.slice so ys.length sc)) (by simp)
      by_cases hlt : k < xs.length
      · obtain ⟨g, off, rfl, hg, c0, c1, c2⟩ := HRD.out wr Lo _ hO k hlt
        have x4 : wr.cell? ⟨X, 4, none⟩ = some (.slice so ys.length sc) := cell_of_get hx 4
        have xl := lt_of_get hx
        have xl1 : X < wr.heap.size + 1 := by omega
        have xl2 : X < wr.heap.size + 1 + 1 := by omega
        have hki : (k : Int) < xs.length := by omega
        have hO2 := (hO.junk (wbox xs[k])).allocAt (.cells #[.int .i64 xs[k].who, .int .i64 0, .int .i64 0, .int .i64 11] 38) (n := wr.heap.size + 1) (by simp)
        have hO3 := hO2.shuf [[_], Lo, _] [1, 0, 2] rfl rfl
        have hnews := news_blk (hO2.head)
        have hsn := Lib.hid (show ys ++ [wakeC xs[k]] = (xs.take (k + 1)).map wakeC by
          rw [HYS.out, List.take_succ_eq_append_getElem hlt, List.map_append]; rfl)
        have hsl := Lib.hid (show ys.length + 1 = ((xs.take (k + 1)).map wakeC).length by rw [← hsn.out]; simp)
        have hxl := lt_of_get hx
        clear hx hO
        go_wp2_with (at_builtin; refine wpList_append_sl rfl (.tmp 37) (.tmp 41) 31 rfl _ _ _ Try.underlying31 hi hz0 hz1 hz2 rfl W4_len W4_one rfl hS (by exact hO3) ⟨wr.heap.size + 1, 0, none⟩ [wakeC xs[k]] 1 1 rfl rfl hnews (by decide) (by unfold maxLen; omega) (by omega) ?_)
        intro g' off' cap' w3 L3' hS3 hO4 _ _
        rw [hsn.out] at hS3
        have HS3 := Lib.hid hS3
        have hO5 := hO4.shuf [L3', [_], [_], _] [2, 0, 1, 3] rfl rfl
        have hx := hO5.head
        have x4 := cell_of_get hx 4
        have xf := free_of_get hx
        have xl := lt_of_get hx
        have hO6 : Own B w0 (w3.setCell ⟨X, 4, none⟩ (.slice (some ⟨g', off', none⟩) (ys.length + 1) cap')) (L3' ++ ((X, outX (.slice (some ⟨g', off', none⟩) (ys.length + 1) cap')) :: (Lv ++ (Z, outZ) :: (b, cobj s.room v1 v2 v3 true) :: (L1 ++ (L2 ++ (L3 ++ F)))))) := (Own.shuf (hO5.setTo 4 (.slice (some ⟨g', off', none⟩) (ys.length + 1) cap') rfl) [[_], L3', [_], Lv ++ (Z, outZ) :: (b, cobj s.room v1 v2 v3 true) :: (L1 ++ (L2 ++ (L3 ++ F)))] [2, 1, 0, 3] rfl rfl).tail
        clear hO2 hO3 hO4 hO5 hS hS3 hx hnews
        simp at x4
        go_wp2
        exact ⟨⟨k + 1, _, L3', by omega, by go_num, HS3.out, hO6⟩, by simp [intOf]; omega⟩
      · obtain rfl : k = xs.length := by omega
        have HS : Hid (Sl 38 4 W4 (.slice so ys.length sc) (xs.map wakeC) Lo) := Lib.hid (by rw [show xs.map wakeC = ys by rw [HYS.out, List.take_of_length_le (Nat.le_refl _)]]; exact hS)
        obtain ⟨x0, x1, x2, x3, x4⟩ := z5 hx
        have xl := lt_of_get hx
        have hb := hO.get (b, cobj s.room v1 v2 v3 true) (by simp)
        have b3 := cell_of_get hb 3
        have b4 := cell_of_get hb 4
        have bf := free_of_get hb
        have bl := lt_of_get hb
        have hz := hO.get (Z, outZ) (by simp)
        obtain ⟨z0, z1, z2, z3, z4⟩ := z5 hz
        have zf := free_of_get hz
        have zl := lt_of_get hz
        have hXb : X ≠ b := fun e => by subst e; have := hx.symm.trans hb; simp at this
        have hZb : Z ≠ b := fun e => by subst e; have := hz.symm.trans hb; simp at this
        have hXZ : X ≠ Z := fun e => (hO.shuf [Lo, [_], _] [1, 0, 2] rfl rfl).notMem (by simp [cat, e])
        have hbX := hXb.symm
        have hbZ := hZb.symm
        have hZX := hXZ.symm
        have hO7 := hO.shuf [Lo, [_], Lv, [_], [_], L1, L2, L3, F] [4, 3, 5, 0, 8, 1, 2, 6, 7] rfl rfl
        clear hS hlk hx hb hz hO
        simp at b3 b4
        go_wp2
        have hO8 : Own B w0 ((wr.setCell ⟨b, 4, none⟩ (.slice none 0 0)).setCell ⟨b, 3, none⟩ (.slice none 0 0)) ((Z, outZ) :: (b, cobj s.room v1 (.slice none 0 0) (.slice none 0 0) true) :: (L1 ++ (Lo ++ (F ++ ([(X, outX (.slice so ys.length sc))] ++ (Lv ++ (L2 ++ L3))))))) :=
          Own.shuf (Own.setTo (Own.setTo hO7 4 (.slice none 0 0) rfl) 3 (.slice none 0 0) rfl) [[_], [_], _] [1, 0, 2] rfl rfl
        have hO9 := out5 hO8 (.bool true) (.int .i64 0) (.int .i64 0) (.int .i64 0) (.slice so ys.length sc)
        obtain ⟨r0, r1, r2, r3, r4⟩ := z5 hO9.head
        have HO9 := Lib.hid (own_close hO9.tail)
        clear hO7 hO8 hO9 z0 z1 z2 z3 z4 x0 x1 x2 x3 x4 b3 b4
        refine bodyPost_ret (v := .tuple #[outV true 0 0 0 (.slice so ys.length sc), .int .i64 0]) (by simp [results, Try.results50, go_sem, r0, r1, r2, r3, r4]) rfl ?_
        exact cout_mk _ HR rfl HS.out ⟨v1, .slice none 0 0, .slice none 0 0, L1, [], [], ⟨hC.s1, Sl.nil, Sl.nil, hC.l1, Nat.zero_le _, Nat.zero_le _, hC.r0, hC.r1⟩, rfl⟩ HO9.out

theorem cclose (B : Nat) (w0 : World) (b : Nat) (s : CS) (L F : List (Nat × Obj)) (w : World) (hX : Cx b s L) (hO : Own B w0 w (L ++ F)) :
    Calls Try.prog 50 #[.pointer (some ⟨b, 0, none⟩)] w (COutPost B w0 b F (closeC s)) := by
  cases h : s.shut with
  | true => exact cclose_shut B w0 b s L F w hX hO h
  | false => exact cclose_open B w0 b s L F w hX hO h

end Go.Proofs.Ytidnkienkdlmkaa
