/-
  The document's condition: contract of Signal. Conditions: few waiters; who waits for a mutex is a thread.
-/
import Derived.Test.YtidnkienkdlmkaaRcC
import Derived.Deep.DeepCutAuto
import Derived.Deep.CutBlock
import Derived.Carry
namespace Go.Proofs.Ytidnkienkdlmkaa
open Go.RowKit Go.Sh

def RSevPost (B : Nat) (w0 : World) (bc b0 b1 : Nat) (F : List (Nat × Obj)) (r : List Wk × KS) (e : Ending) (w' : World) : Prop :=
  ∃ wk Lk L', e = .returned (outV true 0 0 0 wk) ∧ Sl 38 4 W4 wk r.1 Lk ∧ Kr bc b0 b1 r.2 L' ∧ Own B w0 w' (L' ++ (Lk ++ F))

theorem rsev_mk {B : Nat} {w0 : World} {bc b0 b1 : Nat} {F L' Lk : List (Nat × Obj)} {r r' : List Wk × KS} {e : Ending} {w' : World} (wk : Value) (HR : Hid (r = r')) (he : e = .returned (outV true 0 0 0 wk))
    (hk : Sl 38 4 W4 wk r'.1 Lk) (hM : Kr bc b0 b1 r'.2 L') (hO : Own B w0 w' (L' ++ (Lk ++ F))) : RSevPost B w0 bc b0 b1 F r e w' := by
  rw [HR.out]
  exact ⟨wk, Lk, L', he, hk, hM, hO⟩

def RSCut (B : Nat) (w0 : World) (bc Z X V : Nat) (who : Int) (bm : Nat) (q : List WC) (R : List (Nat × Obj)) (wx : World) : Prop :=
  ∃ v Lq, Sl 134 2 CW v q Lq ∧ Own B w0 wx ((bc, robj v) :: (Lq ++ ((V, wobj134 ⟨who, bm⟩) :: (X, kX (.slice none 0 0)) :: (Z, kZ) :: R)))

theorem v2 {w : World} {V : Nat} {x : WC} (h : w.heap[V]? = some (wobj134 x)) : w.cell? ⟨V, 0, none⟩ = some (.int .i64 x.who) ∧ w.cell? ⟨V, 1, none⟩ = some (.pointer (some ⟨x.m, 0, none⟩)) := ⟨cell_of_get h 0, cell_of_get h 1⟩

set_option maxRecDepth 100000 in
set_option maxHeartbeats 4000000 in
theorem rsignal77 (B : Nat) (w0 : World) (bc b0 b1 : Nat) (s : KS) (L F : List (Nat × Obj)) (w : World) (hK : Kr bc b0 b1 s L) (hO : Own B w0 w (L ++ F)) :
    Calls Try.prog 77 #[.pointer (some ⟨bc, 0, none⟩)] w (RSevPost B w0 bc b0 b1 F (sevK (min s.q.length 1) s)) := by
  obtain ⟨i0, hi, hz0, hz1, hz2⟩ := info_parts Try.info134
  have hlq := hK.lenq
  obtain ⟨tot, htot⟩ : ∃ t, sevK (min s.q.length 1) s = t := ⟨_, rfl⟩
  rw [htot]
  have HTT := Lib.hid htot.symm
  clear htot
  cases hq : s.q with
  | nil =>
    have HR := Lib.hid (show tot = ([], s) by rw [HTT.out, hq]; rfl)
    obtain ⟨a, c, c0, hlt⟩ := hK.cells hO (fun p hp => by simp [hp])
    rw [hq] at c0
    have c1 : w.cell? ⟨bc, 0, none⟩ = some (.slice a 0 c) := c0
    have HO := Lib.hid ((hO.junk (kX (.slice none 0 0))).junk (kX (.slice none 0 0)))
    clear hO hq c0 hlq
    go_enter Try.func77, Try.ntmps77
    go_wp2
    exact bodyPost_ret (v := outV true 0 0 0 (.slice none 0 0)) (by simp [results, Try.results77, go_sem]) rfl (rsev_mk (Lk := []) _ HR rfl Sl.nil hK HO.out)
  | cons x r =>
    obtain ⟨who, m⟩ := x
    obtain ⟨lr, hlr⟩ : ∃ lr, lockR (s.own m) (s.ws m) who = lr := ⟨_, rfl⟩
    have HR := Lib.hid (show tot = (onW lr who, (s.put m lr.own lr.ws).withQ r) by
      rw [HTT.out, hq, show min ((who, m) :: r).length 1 = 1 by simp]
      simp only [sevK, onK, hq, hlr, List.append_nil])
    have HLR := Lib.hid hlr
    obtain ⟨Lc, R, hsp, ⟨v, Lq, rfl, hs, hl⟩, _, hback⟩ := hK.cond (B := B) (w0 := w0)
    have hO1 := (((hsp w F hO).allocAt kZ (n := w.heap.size) rfl).allocAt (kX (.slice none 0 0)) (n := w.heap.size + 1) (by simp))
    have hqe : encQ b0 b1 s.q = ⟨who, mb b0 b1 m⟩ :: encQ b0 b1 r := by rw [hq]; rfl
    rw [hqe] at hs hl
    have hrl : (encQ b0 b1 r).length ≤ 256 := by simp at hl; omega
    have HB := Lib.hid hback
    have hXZ : w.heap.size + 1 ≠ w.heap.size := by omega
    clear hsp hback hO hq hlr hqe hlq hl
    go_enter Try.func77, Try.ntmps77
    go_upto_region 2 with fail
    obtain ⟨Z, hZe⟩ : ∃ Z, w.heap.size = Z := ⟨_, rfl⟩
    obtain ⟨X, hXe⟩ : ∃ X, Z + 1 = X := ⟨_, rfl⟩
    rw [hZe, hXe] at hO1 hXZ
    rw [hZe, hXe]
    generalize (w.alloc (.cells #[.bool false, .int .i64 0, .int .i64 0, .int .i64 0, .slice none 0 0] 33)).alloc (.cells #[.bool true, .int .i64 0, .int .i64 0, .int .i64 0, .slice none 0 0] 33) = W at hO1 ⊢
    clear hZe hXe
    rcases hs with ⟨_, h, _⟩ | ⟨g, off, cap, cur, rfl, rfl, hcap, hcm, hsz, hcur⟩
    · cases h
    · have hs : Sl 134 2 CW (.slice (some ⟨g, off, none⟩) (⟨who, mb b0 b1 m⟩ :: encQ b0 b1 r : List WC).length cap) (⟨who, mb b0 b1 m⟩ :: encQ b0 b1 r) [(g, Obj.cells cur 134 (0, 0))] := .inr ⟨g, off, cap, cur, rfl, rfl, hcap, hcm, hsz, hcur⟩
      have hcb := hO1.get (bc, robj (.slice (some ⟨g, off, none⟩) (⟨who, mb b0 b1 m⟩ :: encQ b0 b1 r : List WC).length cap)) (by simp)
      have c0 : W.cell? ⟨bc, 0, none⟩ = some (.slice (some ⟨g, off, none⟩) ((encQ b0 b1 r).length + 1) cap) := cell_of_get hcb 0
      have cl := lt_of_get hcb
      have cl1 : bc < W.heap.size + 1 := by omega
      have cf : W.frozen? ⟨bc, 0, none⟩ = false := free_of_get hcb 0
      obtain ⟨ao', cap', he, hr⟩ := rd_cw (Sl_rd (w := W) hs (fun p hp => hO1.get p (by simp at hp; subst hp; simp)))
      simp only [Value.slice.injEq, true_and] at he
      obtain ⟨rfl, rfl⟩ := he
      obtain ⟨g', off', he, hgl, d0, d1⟩ := hr 0 (by simp)
      simp only [Option.some.injEq, Addr.mk.injEq, and_true] at he
      obtain ⟨rfl, rfl⟩ := he
      simp only [Nat.zero_mul, Nat.add_zero, List.getElem_cons_zero] at d0 d1
      obtain ⟨off', hoff, hS'⟩ := hs.dropIf CW_len 1 (by simp) (cap = 1) id
      have hcase : (cap = 1 ∧ off' = off) ∨ (¬ cap = 1 ∧ off' = off + 2) := by
        by_cases hc : cap = 1
        · rw [if_pos hc] at hoff; simp at hoff; exact .inl ⟨hc, hoff.symm⟩
        · rw [if_neg hc] at hoff; simp at hoff; exact .inr ⟨hc, hoff.symm⟩
      have hO2 := (hO1.allocAt (wobj134 ⟨who, mb b0 b1 m⟩) (n := W.heap.size) rfl).shuf [[_], [_], [_], [_], [_], R, F] [3, 4, 0, 1, 2, 5, 6] rfl rfl
      have HCM := Lib.hid hcm
      have hcap' : (encQ b0 b1 r).length + 1 ≤ cap := hcap
      have hge1 : (1 : Int) ≤ (encQ b0 b1 r).length + 1 := by omega
      have HO1 := Lib.hid hO1
      clear hcb hs hr hoff hcm hsz hcur hcap hO1
      go_upto_region 5 with fail
      generalize hV : W.heap.size = V at hO2 ⊢
      have HV := Lib.hid hV
      clear hV
      go_cut [] (fun wx => RSCut B w0 bc Z X V who (mb b0 b1 m) (encQ b0 b1 r) (R ++ F) wx)
      case first =>
        rcases hcase with ⟨rfl, rfl⟩ | ⟨hc, rfl⟩
        · have hr0 : encQ b0 b1 r = [] := List.eq_nil_of_length_eq_zero (by omega)
          have HR0 := Lib.hid hr0
          clear hr0
          go_wp2
          go_meet
          refine ⟨.slice none 0 0, [], by rw [HR0.out]; exact Sl.nil, ?_⟩
          exact ((((HO1.out.shuf [[_], [_], [_], [_], R, F] [2, 3, 0, 1, 4, 5] rfl rfl).setTo 0 (.slice none 0 0) rfl).allocAt (wobj134 ⟨who, mb b0 b1 m⟩) (n := V) (by simpa using HV.out)).shuf [[_], [_], [_], [_], [_], R, F] [2, 1, 0, 3, 4, 5, 6] rfl rfl).tail
        · have HS' := Lib.hid hS'
          clear hS'
          go_wp2_with (at_builtin; refine wpList_append_all rfl (.const (.slice none 0 0)) (.tmp 26) 80 rfl _ _ _ Try.underlying80 hi hz0 hz1 hz2 rfl CW_len CW_one rfl (Sl.nil (e := 134) (k := 2) (enc := CW)) hO2 _ rfl (encQ b0 b1 r) [(g, Obj.cells cur 134 (0, 0))] (by exact HS'.out) (by simp [cat]) (by simp [maxLen]; omega) (by simp; omega) ?_)
          intro ao1 cap1 w1 L1 hS1 hO3 _
          have hO4 := hO3.shuf [L1, [_], [_], [_], [_], [_], R, F] [1, 0, 3, 4, 5, 6, 7, 2] rfl rfl
          have k0 : w1.cell? ⟨bc, 0, none⟩ = some (.slice (some ⟨g, off, none⟩) ((encQ b0 b1 r).length + 1) cap) := cell_of_get hO4.head 0
          have k1 := free_of_get hO4.head 0
          have k2 := lt_of_get hO4.head
          have HS1 := Lib.hid (show Sl 134 2 CW (.slice ao1 (encQ b0 b1 r).length cap1) (encQ b0 b1 r) L1 by simpa using hS1)
          have HO5 := Lib.hid ((hO4.setTo 0 (.slice ao1 (encQ b0 b1 r).length cap1) rfl).shuf [[_], L1, [_], [_], [_], R, F, [_]] [7, 0, 1, 2, 3, 4, 5, 6] rfl rfl).tail
          clear hO2 hO3 hO4 hS1 c0 cl cl1 cf hgl d0 d1 HO1
          go_wp2
          go_meet
          exact ⟨_, L1, HS1.out, HO5.out⟩
      case rest =>
        clear c0 cl cl1 cf hgl d0 d1 HO1 hO2 hcase hS' HV
        obtain ⟨v, Lq, hS, hO3⟩ := hcut
        obtain ⟨L2, hK2, hb2⟩ := HB.out r ((bc, robj v) :: Lq) ⟨v, Lq, rfl, hS, hrl⟩
        have hO4 := hb2 _ ((V, wobj134 ⟨who, mb b0 b1 m⟩) :: (X, kX (.slice none 0 0)) :: (Z, kZ) :: F) (hO3.shuf [[_], Lq, [_], [_], [_], R, F] [0, 1, 5, 2, 3, 4, 6] rfl rfl)
        obtain ⟨Lm, R2, hsp2, hM, _, hback2⟩ := hK2.mutex (B := B) (w0 := w0) m
        rw [withQ_own, withQ_ws] at hM
        have hO5 := hsp2 _ _ hO4
        obtain ⟨v0, v1⟩ := v2 (hO5.get (V, wobj134 ⟨who, mb b0 b1 m⟩) (by simp))
        have vl := lt_of_get (hO5.get (V, wobj134 ⟨who, mb b0 b1 m⟩) (by simp))
        have HO5 := Lib.hid hO5
        have HB2 := Lib.hid hback2
        clear hS hO3 hb2 hO4 hsp2 hO5 hback2 hK2
        obtain ⟨dn, ft, er, ow, wss⟩ := lr
        go_wp2_with fail
        refine (rlock66 B w0 (mb b0 b1 m) (s.own m) (s.ws m) Lm _ who _ hM.1 HO5.out).mono ?_
        have hpos := lockR_pos (own := s.own m) who hM.2
        rw [HLR.out] at hpos ⊢
        rintro e w2 ⟨rfl, Lm', hM2, hO6⟩
        dsimp only at hM2 HR hpos ⊢
        obtain ⟨L3, hK3, hb3⟩ := HB2.out ow wss Lm' ⟨hM2, hpos⟩
        rw [withQ_put] at hK3
        have hO7 := (hb3 _ _ hO6).shuf [L3, [_], [_], [_], F] [3, 2, 1, 0, 4] rfl rfl
        obtain ⟨z0, z1, z2, z3, z4⟩ := z5 hO7.head
        have zf := free_of_get hO7.head
        have zl := lt_of_get hO7.head
        obtain ⟨x0, x1, x2, x3, x4⟩ := z5 hO7.tail.head
        have xf := free_of_get hO7.tail.head
        have xl := lt_of_get hO7.tail.head
        obtain ⟨v0, v1⟩ := v2 hO7.tail.tail.head
        have vl := lt_of_get hO7.tail.tail.head
        have HO7 := Lib.hid hO7
        clear hpos hM hM2 hO6 hb3 hO7 HO5 HB2 HLR
        by_cases her : er = 0
        · subst her
          by_cases hft : ft = 0
          · subst hft
            cases dn with
            | true =>
              have HW := Lib.hid (show tot = ([⟨who, 0, 0, 0⟩], (s.put m ow wss).withQ r) by rw [HR.out]; simp [onW])
              have hO8 := out5 (((HO7.out.shuf [[_], [_], [_], L3, F] [1, 0, 2, 3, 4] rfl rfl).setTo 4 (.slice (some ⟨w2.heap.size + 1, 0, none⟩) 1 1) rfl).shuf [[_], [_], [_], L3, F] [1, 0, 2, 3, 4] rfl rfl) (.bool true) (.int .i64 0) (.int .i64 0) (.int .i64 0) (.slice (some ⟨w2.heap.size + 1, 0, none⟩) 1 1)
              have hO9 := (hO8.junk (Obj.cells #[.bool true, .int .i64 0, .int .i64 0, .int .i64 0, .slice none 0 0] 33 (0, 0))).allocAt (Obj.cells #[.int .i64 who, .int .i64 0, .int .i64 0, .int .i64 0] 38 (0, 0)) (n := w2.heap.size + 1) (by simp)
              have HR9 := Lib.hid (z5 hO9.tail.head)
              have HO9 := Lib.hid (hO9.shuf [[_], [_], [_], [_], L3, F] [1, 2, 3, 4, 0, 5] rfl rfl).tail.tail.tail
              clear hO8 hO9
              go_wp2
              obtain ⟨r0, r1, r2, r3, r4⟩ := HR9.out
              exact bodyPost_ret (v := outV true 0 0 0 (.slice (some ⟨w2.heap.size + 1, 0, none⟩) 1 1)) (by simp [results, Try.results77, go_sem, r0, r1, r2, r3, r4]) rfl (rsev_mk (Lk := [(w2.heap.size + 1, Obj.cells #[.int .i64 who, .int .i64 0, .int .i64 0, .int .i64 0] 38 (0, 0))]) _ HW rfl (slK (w2.heap.size + 1) ⟨who, 0, 0, 0⟩) hK3 HO9.out)
            | false =>
              have HW := Lib.hid (show tot = ([], (s.put m ow wss).withQ r) by rw [HR.out]; simp [onW])
              have hO8 := out5 HO7.out (.bool true) (.int .i64 0) (.int .i64 0) (.int .i64 0) (.slice none 0 0)
              have hO9 := hO8.junk (Obj.cells #[.bool false, .int .i64 0, .int .i64 0, .int .i64 0, .slice none 0 0] 33 (0, 0))
              have HR9 := Lib.hid (z5 hO9.head)
              have HO9 := Lib.hid hO9.tail.tail.tail
              clear hO8 hO9
              go_wp2
              obtain ⟨r0, r1, r2, r3, r4⟩ := HR9.out
              exact bodyPost_ret (v := outV true 0 0 0 (.slice none 0 0)) (by simp [results, Try.results77, go_sem, r0, r1, r2, r3, r4]) rfl (rsev_mk (Lk := []) _ HW rfl Sl.nil hK3 HO9.out)
          · have hfb : (ft != 0) = true := by simpa using hft
            have HF := Lib.hid hft
            clear hft
            have HW := Lib.hid (show tot = ([⟨who, 0, 0, 8⟩], (s.put m ow wss).withQ r) by rw [HR.out]; simp [onW, HF.out])
            have hO8 := out5 (((HO7.out.shuf [[_], [_], [_], L3, F] [1, 0, 2, 3, 4] rfl rfl).setTo 4 (.slice (some ⟨w2.heap.size + 1, 0, none⟩) 1 1) rfl).shuf [[_], [_], [_], L3, F] [1, 0, 2, 3, 4] rfl rfl) (.bool true) (.int .i64 0) (.int .i64 0) (.int .i64 0) (.slice (some ⟨w2.heap.size + 1, 0, none⟩) 1 1)
            have hO9 := (hO8.junk (Obj.cells #[.bool dn, .int .i64 0, .int .i64 0, .int .i64 ft, .slice none 0 0] 33 (0, 0))).allocAt (Obj.cells #[.int .i64 who, .int .i64 0, .int .i64 0, .int .i64 8] 38 (0, 0)) (n := w2.heap.size + 1) (by simp)
            have HR9 := Lib.hid (z5 hO9.tail.head)
            have HO9 := Lib.hid (hO9.shuf [[_], [_], [_], [_], L3, F] [1, 2, 3, 4, 0, 5] rfl rfl).tail.tail.tail
            clear hO8 hO9
            go_wp2
            obtain ⟨r0, r1, r2, r3, r4⟩ := HR9.out
            exact bodyPost_ret (v := outV true 0 0 0 (.slice (some ⟨w2.heap.size + 1, 0, none⟩) 1 1)) (by simp [results, Try.results77, go_sem, r0, r1, r2, r3, r4]) rfl (rsev_mk (Lk := [(w2.heap.size + 1, Obj.cells #[.int .i64 who, .int .i64 0, .int .i64 0, .int .i64 8] 38 (0, 0))]) _ HW rfl (slK (w2.heap.size + 1) ⟨who, 0, 0, 8⟩) hK3 HO9.out)
        · have heb : (er != 0) = true := by simpa using her
          have HE := Lib.hid her
          clear her
          have HW := Lib.hid (show tot = ([⟨who, 0, 0, 8⟩], (s.put m ow wss).withQ r) by rw [HR.out]; simp [onW, HE.out])
          have hO8 := out5 (((HO7.out.shuf [[_], [_], [_], L3, F] [1, 0, 2, 3, 4] rfl rfl).setTo 4 (.slice (some ⟨w2.heap.size + 1, 0, none⟩) 1 1) rfl).shuf [[_], [_], [_], L3, F] [1, 0, 2, 3, 4] rfl rfl) (.bool true) (.int .i64 0) (.int .i64 0) (.int .i64 0) (.slice (some ⟨w2.heap.size + 1, 0, none⟩) 1 1)
          have hO9 := (hO8.junk (Obj.cells #[.bool dn, .int .i64 0, .int .i64 0, .int .i64 ft, .slice none 0 0] 33 (0, 0))).allocAt (Obj.cells #[.int .i64 who, .int .i64 0, .int .i64 0, .int .i64 8] 38 (0, 0)) (n := w2.heap.size + 1) (by simp)
          have HR9 := Lib.hid (z5 hO9.tail.head)
          have HO9 := Lib.hid (hO9.shuf [[_], [_], [_], [_], L3, F] [1, 2, 3, 4, 0, 5] rfl rfl).tail.tail.tail
          clear hO8 hO9
          go_wp2
          obtain ⟨r0, r1, r2, r3, r4⟩ := HR9.out
          exact bodyPost_ret (v := outV true 0 0 0 (.slice (some ⟨w2.heap.size + 1, 0, none⟩) 1 1)) (by simp [results, Try.results77, go_sem, r0, r1, r2, r3, r4]) rfl (rsev_mk (Lk := [(w2.heap.size + 1, Obj.cells #[.int .i64 who, .int .i64 0, .int .i64 0, .int .i64 8] 38 (0, 0))]) _ HW rfl (slK (w2.heap.size + 1) ⟨who, 0, 0, 8⟩) hK3 HO9.out)

end Go.Proofs.Ytidnkienkdlmkaa
