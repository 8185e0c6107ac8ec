/-
  The walk of shuttlelaw17.CondHas: it returns true. No condition.
-/
import Derived.Test.YtidnkienkdlmkaaCdI
import Derived.Test.YtidnkienkdlmkaaCdArg
import Derived.Deep.RegionHeld3
import Derived.Deep.DeepCutAuto
import Derived.Deep.CutBlock
import Derived.Carry
namespace Go.Proofs.Ytidnkienkdlmkaa
open Go.RowKit Go.Sh

def HasRel (B : Nat) (w0 : World) (bx bc b0 b1 bm N : Nat) (i : Value) (wr : World) : Prop :=
  ∃ (k : Nat) (s : KS) (kvs : List (Int × Value)) (o : Obj) (L : List (Nat × Obj)), k ≤ N ∧ i = .int .i64 k ∧ Wx bx bc b0 b1 s L ∧ HInv s kvs ∧ MapIs kvs o ∧ Own B w0 wr (L ++ [(bm, o)])

def HCut (B : Nat) (w0 : World) (bm O Z : Nat) (d who : Int) (m : Bool) (kvs : List (Int × Value)) (r : KR) (wk : Value) (L Lk : List (Nat × Obj)) (wx : World) : Prop :=
  ∃ o : Obj, MapIs (hput d who m r kvs) o ∧ Own B w0 wx ((Z, outO r.done 0 0 r.fault wk) :: (O, opbx d who m) :: (bm, o) :: (L ++ Lk))

def HWkRel (B : Nat) (w0 : World) (bm O N : Nat) (d who : Int) (m : Bool) (o : Obj) (R : List (Nat × Obj)) (i : Value) (wr : World) : Prop :=
  ∃ k : Nat, k ≤ N ∧ i = .int .i64 k ∧ Own B w0 wr ((O, opbx d who m) :: (bm, o) :: R)

set_option maxRecDepth 100000 in
set_option maxHeartbeats 8000000 in
theorem has7 (xs : List K3) (ao : Option Addr) (cap : Nat) (w : World) (hR : Rd w CK3 (.slice ao xs.length cap) xs) (_ : ∀ x ∈ xs, True) (hx : xs.length ≤ 9223372036854775807) (hcap : xs.length ≤ cap) :
    Calls Try.prog 7 #[.slice ao xs.length cap] w fun e w' => e = .returned (.bool true) ∧ Below w.heap.size w w' := by
  obtain ⟨ao', cap', he, r1⟩ := rd_k3 hR
  simp only [Value.slice.injEq, true_and] at he
  obtain ⟨rfl, rfl⟩ := he
  have R1 := Lib.hid r1
  obtain ⟨N, hN1, hN2, hmin⟩ : ∃ N : Nat, N ≤ xs.length ∧ N ≤ 100 ∧ (if (100 : Int) < (xs.length : Int) then 100 else (xs.length : Int)) = (N : Int) := ⟨min xs.length 100, by omega, by omega, by split <;> omega⟩
  clear hR r1
  have hO0 := Own.start w
  have hmk : ∀ w, (Instr.makeMap 59 none).run Try.prog w = .ok (.map (some w.heap.size)) (w.alloc (.map #[] 0)) := fun w => run_makeMap 59 w
  go_enter Try.func7, Try.ntmps7
  go_wp2_with fail
  refine (begun29 w.heap.size w [] _ hO0).mono ?_
  rintro e w1 ⟨bx, bc, b0, b1, L0, rfl, hX, hO1⟩
  have HO1 := Lib.hid hO1
  clear hO0 hO1
  go_wp2_with fail
  refine (awake30 w.heap.size w _ _ HO1.out).mono ?_
  rintro e w2 ⟨rfl, hO2⟩
  have hO3 := (hO2.alloc (.map #[] 0)).shuf [[_], L0, []] [1, 0, 2] rfl rfl
  go_wp2
  generalize hpg : w2.heap.size = bm at hO3 ⊢
  clear hmin HO1 hO2 hpg
  have HX1 := Lib.hid hX
  clear hX
  go_loopw [30] (fun i wr => HasRel w.heap.size w bx bc b0 b1 bm N i wr) (fun i _ => N - (intOf i).toNat)
  case atStart => exact ⟨0, ks0, [], _, L0, Nat.zero_le _, rfl, HX1.out, fun x hx => by simp [ks0] at hx, MapIs.new, by simpa [cat] using hO3⟩
  case round =>
    clear hO3 HX1
    obtain ⟨k, s, kvs, o, L, hk, rfl, hX, hI, hM, hO⟩ := hrel
    by_cases hlt : k < N
    · obtain ⟨g, off, rfl, hgl, e0, e1, e2⟩ := R1.out k (by omega)
      have c0 := (hO.below.cell (p := ⟨g, off + k * 3, none⟩) hgl).trans e0
      have c1 := (hO.below.cell (p := ⟨g, off + k * 3 + 1, none⟩) hgl).trans e1
      have c2 := (hO.below.cell (p := ⟨g, off + k * 3 + 2, none⟩) hgl).trans e2
      have hkx : k < xs.length := by omega
      clear e0 e1 e2
      obtain ⟨⟨d, who, m⟩, hop⟩ : ∃ x, xs[k] = x := ⟨_, rfl⟩
      rw [hop] at c0 c1 c2
      dsimp only at c0 c1 c2
      clear hop
      have hO4 := (hO.alloc (opbx d who m)).shuf [[_], L, [_]] [1, 0, 2] rfl rfl
      obtain ⟨r, hr⟩ : ∃ r, doesK s d who m = r := ⟨_, rfl⟩
      obtain ⟨iv, hiv⟩ : ∃ iv : Int, (if m = true then (1 : Int) else 0) = iv := ⟨_, rfl⟩
      have HIV := Lib.hid hiv
      have HI := Lib.hid hI
      have HM := Lib.hid hM
      have HR := Lib.hid hr
      have HX := Lib.hid hX
      have HO4 := Lib.hid hO4
      clear hO hI hM hr hX hO4 hiv
      obtain ⟨O, hOe⟩ : ∃ O, wr.heap.size = O := ⟨_, rfl⟩
      rw [hOe] at HO4
      go_wp2_with fail
      refine (does31 w.heap.size w bx bc b0 b1 s L _ d who m _ HX.out HO4.out).mono ?_
      rw [HR.out]
      rintro e w3 ⟨wk, Lk, L', rfl, hK, hX2, hO5⟩
      obtain ⟨hI2, hW2⟩ := has_law s d who m kvs HI.out
      rw [HR.out] at hI2 hW2
      obtain ⟨ak, ck, rfl, hkc, hkm⟩ := hK.form
      obtain ⟨rd, rf, rw', re, rs⟩ := r
      dsimp only at hK hX2 hI2 hW2 hO5 ⊢
      have hO6 := (hO5.alloc (outO rd 0 0 rf (.slice ak rw'.length ck))).shuf [[_], L', Lk, [_], [_]] [0, 3, 4, 1, 2] rfl rfl
      obtain ⟨Z, hZe⟩ : ∃ Z, w3.heap.size = Z := ⟨_, rfl⟩
      rw [hZe] at hO6
      have HK := Lib.hid hK
      have HX2 := Lib.hid hX2
      have HI2 := Lib.hid hI2
      have HW2 := Lib.hid hW2
      have HO6 := Lib.hid hO6
      clear hK hX2 hI2 hW2 hO5 hO6 HX HO4 HI c0 c1 c2
      by_cases hre : re = 0
      · subst hre
        go_upto_region 10 with fail
        generalize w3.alloc (.cells #[.bool rd, .int .i64 0, .int .i64 0, .int .i64 rf, .slice ak rw'.length ck] 33) = W at HO6 ⊢
        clear hZe hOe
        obtain ⟨z0, z1, z2, z3, z4⟩ := z5 (HO6.out.head)
        have zl := lt_of_get HO6.out.head
        have hob := HO6.out.get (O, opbx d who m) (by simp [cat])
        obtain ⟨o0, o1, o2⟩ := opb3 hob
        have ol := lt_of_get hob
        clear hob
        go_cut [49] (fun s49 wx => s49 = .bool (decide (d = 2) && decide (rf = 0)) ∧ Own w.heap.size w wx ((Z, outO rd 0 0 rf (.slice ak rw'.length ck)) :: (O, opbx d who m) :: (bm, o) :: (L' ++ Lk)))
        case first =>
          by_cases hd : d = 2
          · subst hd
            by_cases hf : rf = 0
            · subst hf
              go_wp2_with fail
              go_meet
              exact ⟨by simp, HO6.out⟩
            · have hf' : (rf == 0) = false := by simpa using hf
              have HF := Lib.hid hf
              clear hf
              go_wp2_with fail
              go_meet
              exact ⟨by simp [HF.out], HO6.out⟩
          · have hd' : (d == 2) = false := by simpa using hd
            have HD := Lib.hid hd
            clear hd
            go_wp2_with fail
            go_meet
            exact ⟨by simp [HD.out], HO6.out⟩
        case rest =>
        obtain ⟨rfl, hO6⟩ := hcut
        clear z0 z1 z2 z3 z4 zl o0 o1 o2 ol HO6
        obtain ⟨z0, z1, z2, z3, z4⟩ := z5 hO6.head
        have zl := lt_of_get hO6.head
        have hob := hO6.get (O, opbx d who m) (by simp)
        obtain ⟨o0, o1, o2⟩ := opb3 hob
        have ol := lt_of_get hob
        have HO6 := Lib.hid hO6
        clear hob hO6
        go_upto_if 49 with fail
        go_cut [] (fun wx => HCut w.heap.size w bm O Z d who m kvs ⟨rd, rf, rw', 0, rs⟩ (.slice ak rw'.length ck) L' Lk wx)
        case first =>
          by_cases hc : d = 2 ∧ rf = 0
          · obtain ⟨rfl, rfl⟩ := hc
            have hput1 : hput 2 who m ⟨rd, 0, rw', 0, rs⟩ kvs = kput kvs who (miV m) := by simp [hput]
            obtain ⟨o', w4, hrun, hM4, hO7⟩ := map_put (((HO6.out.junk (opbx 2 who m)).drew).shuf [[_], [_], [_], _] [2, 0, 1, 3] rfl rfl) HM.out who (.int .i64 iv)
            rw [show (Value.int .i64 iv) = miV m from by rw [← HIV.out]] at hM4
            have HM4 := Lib.hid hM4
            have HO7 := Lib.hid (hO7.shuf [[_], [_], [_], L' ++ Lk] [1, 2, 0, 3] rfl rfl)
            clear hM4 hO7
            go_wp2_with fail
            go_region_law (go_simp; go_at_call 32; refine (one32 2 who m _).mono ?_; rintro e w' ⟨rfl, rfl⟩; rw [HIV.out])
            all_goals
              go_wp2_with fail
              go_meet
              exact ⟨o', by rw [hput1]; exact HM4.out, HO7.out⟩
          · have hcb : (decide (d = 2) && decide (rf = 0)) = false := by simpa using hc
            have hput1 : hput d who m ⟨rd, rf, rw', 0, rs⟩ kvs = kvs := by simp only [hput]; rw [if_neg (fun h => hc ⟨h.1, h.2.2⟩)]
            rw [hcb]
            clear hc hcb
            go_wp2_with fail
            go_meet
            exact ⟨o, by rw [hput1]; exact HM.out, HO6.out⟩
        case rest =>
          obtain ⟨o', hM', hO7⟩ := hcut
          clear z0 z1 z2 z3 z4 zl o0 o1 o2 ol HO6 HM
          generalize hput d who m ⟨rd, rf, rw', 0, rs⟩ kvs = kv2 at HI2 HW2 hM'
          obtain ⟨z0, z1, z2, z3, z4⟩ := z5 hO7.head
          have zl := lt_of_get hO7.head
          have HRD := Lib.hid (show ∀ (wr : World), (∀ p ∈ Lk, wr.heap[p.1]? = some p.2) → ∀ i (hi : i < rw'.length), ∃ g off, ak = some ⟨g, off, none⟩ ∧ g < wr.heap.size ∧
              wr.cell? ⟨g, off + i * 4, none⟩ = some (.int .i64 rw'[i].who) ∧ wr.cell? ⟨g, off + i * 4 + 1, none⟩ = some (.int .i64 rw'[i].t) ∧ wr.cell? ⟨g, off + i * 4 + 2, none⟩ = some (.int .i64 rw'[i].n) ∧ wr.cell? ⟨g, off + i * 4 + 3, none⟩ = some (.int .i64 rw'[i].f) from fun wr hg i hi => by
            obtain ⟨a', c', e1, e2⟩ := rd_wakes (Sl_rd (w := wr) HK.out hg)
            simp only [Value.slice.injEq, true_and] at e1
            obtain ⟨rfl, rfl⟩ := e1
            obtain ⟨g, off, rfl, hg, hc⟩ := e2 i hi
            exact ⟨g, off, rfl, hg, hc i hi⟩)
          have hlw : rw'.length ≤ 9223372036854775807 := by
            have h1 := hkc
            have h2 := hkm
            unfold maxLen at h2
            dsimp only at h1
            omega
          have HO7 := Lib.hid hO7.tail
          have HM' := Lib.hid hM'
          obtain ⟨Lk2, hL2, hKw⟩ := HX2.out
          clear hO7 hM'
          go_wp2
          go_loopw [58] (fun i wr => HWkRel w.heap.size w bm O rw'.length d who m o' (L' ++ Lk) i wr) (fun i _ => rw'.length - (intOf i).toNat)
          case atStart => exact ⟨0, Nat.zero_le _, rfl, HO7.out⟩
          case round =>
            clear z0 z1 z2 z3 z4 zl HO7
            obtain ⟨j, hj, rfl, hO⟩ := hrel
            by_cases hlj : j < rw'.length
            · obtain ⟨g, off, rfl, hgl, k0, k1, k2, k3⟩ := HRD.out _ (fun p hp => hO.get p (by simp [hp])) j hlj
              obtain ⟨mm, hm1, hm2, hm3⟩ := HW2.out rw'[j] (List.getElem_mem hlj)
              have hji : (j : Int) < rw'.length := by omega
              obtain ⟨⟨kw, kt, kn, kf⟩, hkx⟩ : ∃ x, rw'[j] = x := ⟨_, rfl⟩
              rw [hkx] at k0 k1 k2 k3 hm1 hm3
              dsimp only at k0 k1 k2 k3 hm1 hm3
              clear hkx
              have hob := hO.get (O, opbx d who m) (by simp)
              obtain ⟨o0, o1, o2⟩ := opb3 hob
              have ol := lt_of_get hob
              have HO1 := Lib.hid ((hO.alloc (Obj.cells #[.int .i64 kw, .int .i64 kt, .int .i64 kn, .int .i64 kf] 38)))
              have H1 := Lib.hid hm1
              have H2 := Lib.hid hm2
              have H3 := Lib.hid hm3
              clear hob hm1 hm2 hm3 hO
              obtain ⟨K, hKe⟩ : ∃ K, wr.heap.size = K := ⟨_, rfl⟩
              rw [hKe] at HO1
              go_upto_region 15 with fail
              clear k0 k1 k2 k3
              generalize wr.alloc (.cells #[.int .i64 kw, .int .i64 kt, .int .i64 kn, .int .i64 kf] 38) = W at HO1 ⊢
              have hob := HO1.out.get (O, opbx d who m) (by simp)
              clear o0 o1 o2 ol
              obtain ⟨o0, o1, o2⟩ := opb3 hob
              have ol := lt_of_get hob
              have HO2 := Lib.hid (HO1.out.junk (opbx d who m))
              clear hob
              go_upto_region 16 with (go_at_call 32; refine (one32 d who m _).mono ?_; rintro e w' ⟨rfl, rfl⟩; rw [HIV.out])
              clear HO1 o0 o1 o2 ol
              generalize W.alloc (opbx d who m) = W at HO2 ⊢
              have hob := HO2.out.get (O, opbx d who m) (by simp)
              obtain ⟨o0, o1, o2⟩ := opb3 hob
              have ol := lt_of_get hob
              have hkb := HO2.out.head
              have k0 := cell_of_get hkb 0
              simp at k0
              have kl := lt_of_get hkb
              clear hob hkb
              go_cut [71] (fun s71 wx => s71 = .bool (decide (d = 3) || decide (d = 4)) ∧ wx = W)
              case first =>
                by_cases hd3 : d = 3
                · subst hd3
                  go_wp2_with fail
                  go_meet
                  exact ⟨by simp, rfl⟩
                · have hd3' : (d == 3) = false := by simpa using hd3
                  have hd4' : (d == 4) = decide (d = 4) := by by_cases h : d = 4 <;> simp [h]
                  have HD := Lib.hid hd3
                  clear hd3
                  go_wp2_with fail
                  go_meet
                  exact ⟨by simp [HD.out], rfl⟩
              case rest =>
              obtain ⟨rfl, rfl⟩ := hcut
              go_upto_if 71 with fail
              obtain ⟨jv, hjv⟩ : ∃ jv, miV mm = jv := ⟨_, rfl⟩
              have HJ := Lib.hid hjv
              clear hjv
              go_cut [11] (fun s11 wx => s11 = jv ∧ Own w.heap.size w wx ((K, Obj.cells #[.int .i64 kw, .int .i64 kt, .int .i64 kn, .int .i64 kf] 38 (0, 0)) :: (O, opbx d who m) :: (bm, o') :: (L' ++ Lk)))
              case first =>
                by_cases hd3 : d = 3 ∨ d = 4
                · have hget := map_get (HO2.out.shuf [[_], [_], [_], _] [2, 0, 1, 3] rfl rfl) HM'.out kw jv (by rw [← HJ.out]; exact H1.out hd3)
                  have hdb : (decide (d = 3) || decide (d = 4)) = true := by simpa using hd3
                  rw [hdb]
                  clear hd3 hdb
                  go_wp2_with fail
                  go_meet
                  exact ⟨rfl, HO2.out⟩
                · have hdb : (decide (d = 3) || decide (d = 4)) = false := by simpa using hd3
                  have hjv : (Value.int .i64 iv) = jv := by rw [← HJ.out, ← HIV.out, H2.out hd3]
                  have HJV := Lib.hid hjv
                  rw [hdb]
                  clear hd3 hdb hjv
                  go_wp2_with fail
                  go_meet
                  exact ⟨HJV.out, HO2.out⟩
              case rest =>
                obtain ⟨rfl, hO2⟩ := hcut
                rw [← HJ.out]
                clear o0 o1 o2 ol HO2 k0 kl HJ
                have hkb := hO2.head
                have k0 := cell_of_get hkb 0
                have k3 := cell_of_get hkb 3
                simp at k0 k3
                have kl := lt_of_get hkb
                have hgb := hO2.get (bx, gobjW bc b0 b1) (by simp [hL2])
                obtain ⟨g0, g1, g2⟩ := gob3 hgb
                have gl := lt_of_get hgb
                obtain ⟨Lm, hMx, hLm⟩ := hKw.mem mm
                have hgm := Lib.hid (fun p (hp : p ∈ Lm) => hO2.get p (by simp [hL2, hLm p hp]))
                have HO2 := Lib.hid hO2
                have HMx := Lib.hid hMx
                clear hkb hgb hO2 hMx
                by_cases hk0 : kf = 0
                · subst hk0
                  have ho := H3.out rfl
                  have hov : ownV (rs.own mm) = .tuple #[.int .i64 kw, .bool true] := by rw [ho]; rfl
                  have HOV := Lib.hid hov
                  clear ho hov
                  cases mm with
                  | false =>
                    go_wp2_with (go_at_call 19; refine (owner_any b0 (rs.own false) (rs.ws false) Lm _ HMx.out hgm.out).mono ?_; rintro e w' ⟨rfl, rfl⟩; rw [HOV.out])
                    exact ⟨⟨j + 1, by omega, by go_num, HO2.out.tail⟩, by simp [intOf]; omega⟩
                  | true =>
                    go_wp2_with (go_at_call 19; refine (owner_any b1 (rs.own true) (rs.ws true) Lm _ HMx.out hgm.out).mono ?_; rintro e w' ⟨rfl, rfl⟩; rw [HOV.out])
                    exact ⟨⟨j + 1, by omega, by go_num, HO2.out.tail⟩, by simp [intOf]; omega⟩
                · have hk0' : (kf == 0) = false := by simpa using hk0
                  obtain ⟨ov, hov⟩ : ∃ ov, rs.own mm = ov := ⟨_, rfl⟩
                  cases mm with
                  | false =>
                    go_wp2_with (go_at_call 19; refine (owner_any b0 (rs.own false) (rs.ws false) Lm _ HMx.out hgm.out).mono ?_; rintro e w' ⟨rfl, rfl⟩; dsimp only [ownV])
                    exact ⟨⟨j + 1, by omega, by go_num, HO2.out.tail⟩, by simp [intOf]; omega⟩
                  | true =>
                    go_wp2_with (go_at_call 19; refine (owner_any b1 (rs.own true) (rs.ws true) Lm _ HMx.out hgm.out).mono ?_; rintro e w' ⟨rfl, rfl⟩; dsimp only [ownV])
                    exact ⟨⟨j + 1, by omega, by go_num, HO2.out.tail⟩, by simp [intOf]; omega⟩
            · obtain rfl : j = rw'.length := by omega
              go_wp2
              exact ⟨⟨k + 1, rs, kv2, o', L', by omega, by go_num, HX2.out, HI2.out, HM'.out, (hO.tail.shuf [[_], L', Lk] [2, 1, 0] rfl rfl).right⟩, by simp [intOf]; omega⟩
      · have hre' : (re != 0) = true := by simpa using hre
        have hput1 : hput d who m ⟨rd, rf, rw', re, rs⟩ kvs = kvs := by simp [hput, hre]
        rw [hput1] at HI2
        go_wp2
        exact ⟨⟨k + 1, rs, kvs, o, L', by omega, by go_num, HX2.out, HI2.out, HM.out, ((HO6.out.tail.tail).shuf [[_], L', Lk] [2, 1, 0] rfl rfl).right⟩, by simp [intOf]; omega⟩
    · go_wp2
      go_ret
      exact ⟨rfl, hO.below⟩

end Go.Proofs.Ytidnkienkdlmkaa
