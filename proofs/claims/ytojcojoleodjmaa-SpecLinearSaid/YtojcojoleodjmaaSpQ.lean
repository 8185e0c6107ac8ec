/-
  spec: contract of the document's Check. No condition.
-/
import Derived.Test.YtojcojoleodjmaaSpP
namespace Go.Proofs.Ytojcojoleodjmaa
open Go.RowKit Go.Shelf Go.Sh
attribute [local go_sem ↓] Go.wp_at_zero Go.wp_at_succ

theorem below_drewN {n : Nat} {w w' : World} (h : Below n w w') (k : Nat) : Below n w (w'.drewN k) := ⟨h.os, h.tape, h.output, h.size, h.block⟩
theorem At6.later {w w' : World} {g o : Nat} {x : C6} (h : At6 w g o x) (hb : Below w.heap.size w w') : At6 w' g o x := by
  have hl := World.block_lt_of_cell? _ _ h.1
  exact ⟨(hb.cell (p := ⟨g, o, none⟩) hl).trans h.1, (hb.cell (p := ⟨g, o + 1, none⟩) hl).trans h.2.1, (hb.cell (p := ⟨g, o + 2, none⟩) hl).trans h.2.2.1, (hb.cell (p := ⟨g, o + 3, none⟩) hl).trans h.2.2.2.1, (hb.cell (p := ⟨g, o + 4, none⟩) hl).trans h.2.2.2.2.1, (hb.cell (p := ⟨g, o + 5, none⟩) hl).trans h.2.2.2.2.2⟩

set_option maxRecDepth 100000 in
set_option maxHeartbeats 4000000 in
theorem check39 (B : Nat) (w0 : World) (F : List (Nat × Obj)) (xs : List C6) (v : Value) (w : World) (hR : Rd w CC v xs) (hO : Sh.Own B w0 w F) (hx : xs.length ≤ 9223372036854775807) (hcap : ∀ ao n c, v = .slice ao n c → n ≤ c) :
    Calls Try.prog 39 #[v] w (IntJ B w0 w F (checkR xs)) := by
  have hR0 := hR
  obtain ⟨ao, cap, rfl, hr⟩ := rd_cc hR
  have hcp := hcap _ _ _ rfl
  have HR0 := Lib.hid hR0
  have HC := Lib.hid hr
  have HO := Lib.hid hO
  have HB0 := Lib.hid (Below.refl w.heap.size w)
  obtain ⟨res, hres⟩ : ∃ r, checkR xs = r := ⟨_, rfl⟩
  rw [hres]
  have HRES := Lib.hid hres
  clear hR hr hR0 hO hcap hres
  go_enter Try.func39, Try.ntmps39
  go_wp2
  go_loopw [3] (fun i wr => ∃ k : Nat, k ≤ xs.length ∧ i = .int .i64 k ∧ Hid (∀ j, j < k → nokB xs j = false) ∧ Hid (Sh.Own B w0 wr F) ∧ Hid (Below w.heap.size w wr)) (fun i _ => xs.length - (intOf i).toNat)
  case atStart => exact ⟨0, Nat.zero_le _, rfl, Lib.hid (fun _ h => by omega), HO, HB0⟩
  case round =>
    clear HO HB0
    obtain ⟨k, hk, rfl, HN, HO, HB⟩ := hrel
    by_cases hlt : k < xs.length
    · obtain ⟨g, off, rfl, hg, e0, e1, e2, e3, e4, e5⟩ := HC.out k hlt
      have c0 := (HB.out.cell (p := ⟨g, off + k * 6, none⟩) hg).trans e0
      have c1 := (HB.out.cell (p := ⟨g, off + k * 6 + 1, none⟩) hg).trans e1
      have c2 := (HB.out.cell (p := ⟨g, off + k * 6 + 2, none⟩) hg).trans e2
      have c3 := (HB.out.cell (p := ⟨g, off + k * 6 + 3, none⟩) hg).trans e3
      have c4 := (HB.out.cell (p := ⟨g, off + k * 6 + 4, none⟩) hg).trans e4
      have c5 := (HB.out.cell (p := ⟨g, off + k * 6 + 5, none⟩) hg).trans e5
      have hki : (k : Int) < xs.length := by omega
      obtain ⟨x, hxe⟩ : ∃ x, xs[k] = x := ⟨_, rfl⟩
      rw [hxe] at c0 c1 c2 c3 c4 c5
      have HNK := Lib.hid (show nokB xs k = (badB x || (xs.take k).any fun o => overB o x) by unfold nokB; rw [List.getD_eq_getElem?_getD, List.getElem?_eq_getElem hlt, hxe]; rfl)
      have hbl2 : Below w.heap.size w (wr.alloc (ob6 x)) := HB.out.alloc HB.out.size (ob6 x)
      have HRT := Lib.hid (rd_take (HR0.out.later hbl2) k (by omega))
      have HO1 := Lib.hid (HO.out.junk (ob6 x))
      have HX0 := Lib.hid (cells6 (heap_alloc_new wr (ob6 x)))
      have HB1 := Lib.hid hbl2
      clear e0 e1 e2 e3 e4 e5 hxe hbl2
      go_upto_region 5 with fail
      obtain ⟨P, hPe⟩ : ∃ P, wr.heap.size = P := ⟨_, rfl⟩
      rw [hPe] at HX0 ⊢
      generalize wr.alloc (.cells #[.int .i64 x.who, .int .i64 x.op, .int .i64 x.v.t, .int .i64 x.v.n, .int .i64 x.fro, .int .i64 x.til] 80) = W at HO1 HX0 HRT HB1 ⊢
      clear hPe c0 c1 c2 c3 c4 c5 HO HB
      obtain ⟨p0, p1, p2, p3, p4, p5⟩ := HX0.out
      simp only [Nat.zero_add] at p1 p2 p3 p4 p5
      have pl := World.block_lt_of_cell? _ _ p0
      have pl0 : P < W.heap.size := pl
      go_cut [40] (fun s40 wx => s40 = .bool (badB x) ∧ wx = W)
      case first =>
        by_cases h1 : x.op = 1
        · have b1 : (x.op != 1) = false := by simp [h1]
          by_cases h3 : x.fro < 1
          · have HRR := Lib.hid (show badB x = true by simp [badB, h3])
            clear h1
            go_wp2_with fail
            go_meet
            exact ⟨by rw [HRR.out], rfl⟩
          · by_cases h4 : x.til = 0
            · have b4 : (x.til != 0) = false := by simp [h4]
              have HRR := Lib.hid (show badB x = false by simp [badB, h1, h3, h4])
              clear h1 h4
              go_wp2_with fail
              go_meet
              exact ⟨by rw [HRR.out], rfl⟩
            · have b4 : (x.til != 0) = true := by simp [h4]
              have HRR := Lib.hid (show badB x = decide (x.til ≤ x.fro) by simp [badB, h1, h3, h4])
              clear h1 h4
              go_wp2_with fail
              go_meet
              exact ⟨by rw [HRR.out], rfl⟩
        · have b1 : (x.op != 1) = true := by simp [h1]
          by_cases h2 : x.op = 2
          · have b2 : (x.op != 2) = false := by simp [h2]
            by_cases h3 : x.fro < 1
            · have HRR := Lib.hid (show badB x = true by simp [badB, h3])
              clear h1 h2
              go_wp2_with fail
              go_meet
              exact ⟨by rw [HRR.out], rfl⟩
            · by_cases h4 : x.til = 0
              · have b4 : (x.til != 0) = false := by simp [h4]
                have HRR := Lib.hid (show badB x = false by simp [badB, h2, h3, h4])
                clear h1 h2 h4
                go_wp2_with fail
                go_meet
                exact ⟨by rw [HRR.out], rfl⟩
              · have b4 : (x.til != 0) = true := by simp [h4]
                have HRR := Lib.hid (show badB x = decide (x.til ≤ x.fro) by simp [badB, h2, h3, h4])
                clear h1 h2 h4
                go_wp2_with fail
                go_meet
                exact ⟨by rw [HRR.out], rfl⟩
          · have b2 : (x.op != 2) = true := by simp [h2]
            have HRR := Lib.hid (show badB x = true by simp [badB, h1, h2])
            clear h1 h2
            go_wp2_with fail
            go_meet
            exact ⟨by rw [HRR.out], rfl⟩
      case rest =>
        obtain ⟨rfl, hW⟩ := hcut
        have hW2 := hW.symm
        clear hW
        subst hW2
        cases hb : badB x with
        | true =>
          have HRR := Lib.hid (show res = 230 by rw [← HRES.out]; exact chk_yes hlt (by rw [HNK.out, hb]; rfl))
          clear hb
          go_wp2
          go_ret
          exact ⟨by rw [HRR.out]; rfl, HO1.out, HB1.out⟩
        | false =>
          have HBD := Lib.hid hb
          have hk0 : (0 : Int) ≤ k := by omega
          clear hb
          go_wp2
          go_loopw [5] (fun i wr => ∃ m : Nat, m ≤ k ∧ i = .int .i64 m ∧ Hid ((xs.take m).any (fun o => overB o x) = false) ∧ Hid (Sh.Own B w0 wr F) ∧ Hid (Below W.heap.size W wr)) (fun i _ => k - (intOf i).toNat)
          case atStart => exact ⟨0, Nat.zero_le _, rfl, Lib.hid (by simp), HO1, Lib.hid (Below.refl _ _)⟩
          case round =>
            obtain ⟨m, hm, rfl, HN2, HO2, HB2⟩ := hrel
            by_cases hlt2 : m < k
            · obtain ⟨g', off', he, hg', f0, f1, f2, f3, f4, f5⟩ := HC.out m (by omega)
              simp only [Option.some.injEq, Addr.mk.injEq, and_true] at he
              obtain ⟨rfl, rfl⟩ := he
              have HB3 := Lib.hid (HB1.out.trans (HB2.out.mono HB1.out.size))
              have c0 := (HB3.out.cell (p := ⟨g, off + m * 6, none⟩) hg).trans f0
              have c1 := (HB3.out.cell (p := ⟨g, off + m * 6 + 1, none⟩) hg).trans f1
              have c2 := (HB3.out.cell (p := ⟨g, off + m * 6 + 2, none⟩) hg).trans f2
              have c3 := (HB3.out.cell (p := ⟨g, off + m * 6 + 3, none⟩) hg).trans f3
              have c4 := (HB3.out.cell (p := ⟨g, off + m * 6 + 4, none⟩) hg).trans f4
              have c5 := (HB3.out.cell (p := ⟨g, off + m * 6 + 5, none⟩) hg).trans f5
              have q0 := (HB2.out.cell (p := ⟨P, 0, none⟩) pl).trans p0
              have q1 := (HB2.out.cell (p := ⟨P, 1, none⟩) pl).trans p1
              have q2 := (HB2.out.cell (p := ⟨P, 2, none⟩) pl).trans p2
              have q3 := (HB2.out.cell (p := ⟨P, 3, none⟩) pl).trans p3
              have q4 := (HB2.out.cell (p := ⟨P, 4, none⟩) pl).trans p4
              have q5 := (HB2.out.cell (p := ⟨P, 5, none⟩) pl).trans p5
              obtain ⟨y, hye⟩ : ∃ y, xs[m] = y := ⟨_, rfl⟩
              rw [hye] at c0 c1 c2 c3 c4 c5
              have im : (m : Int) < k := by omega
              have im0 : (0 : Int) ≤ m := by omega
              have im2 : (m : Int) < xs.length := by omega
              have HT := Lib.hid (show (xs.take (m + 1)).any (fun o => overB o x) = overB y x by rw [List.take_succ_eq_append_getElem (by omega), List.any_append, HN2.out, hye]; simp)
              have HIN := Lib.hid (show overB y x = true → (xs.take k).any (fun o => overB o x) = true from fun h => List.any_eq_true.2 ⟨y, by rw [← hye]; exact List.mem_take_iff_getElem.2 ⟨m, by omega, rfl⟩, h⟩)
              clear f0 f1 f2 f3 f4 f5 p0 p1 p2 p3 p4 p5 hye
              by_cases hwh : y.who = x.who
              · have hwb : (y.who == x.who) = true := by simp [hwh]
                have HQ6 := Lib.hid (show At6 wr P 0 x from ⟨q0, q1, q2, q3, q4, q5⟩)
                have HY6 := Lib.hid (show At6 wr g (off + m * 6) y from ⟨c0, c1, c2, c3, c4, c5⟩)
                have hg2 : g < wr.heap.size := World.block_lt_of_cell? _ _ c0
                have pl2 : P < wr.heap.size := World.block_lt_of_cell? _ _ q0
                cases h1 : endedB y x with
                | true =>
                  have HOV := Lib.hid (show overB y x = false by simp [overB, h1])
                  have H1 := Lib.hid h1
                  clear hwh h1
                  go_wp2
                  first
                    | (go_region_with (go_at_call 66; (with_reducible refine (before_v B w0 F y x _ HO2.out.drew).mono ?_); rintro e w3 ⟨rfl, hO3, hB3⟩; rw [H1.out]; have HBX := Lib.hid ((Below.refl wr.heap.size wr).drew.trans hB3); obtain ⟨r0, r1, r2, r3, r4, r5⟩ := HQ6.out.later HBX.out; obtain ⟨t0, t1, t2, t3, t4, t5⟩ := HY6.out.later HBX.out; simp only [Nat.zero_add] at r1 r2 r3 r4 r5; have HO3 := Lib.hid hO3; have HB4 := Lib.hid (HB2.out.drew.trans (hB3.mono HB2.out.size)); clear hO3 hB3))
                    | fail "region"
                  all_goals
                    go_wp2
                    exact ⟨⟨m + 1, by omega, by go_num, Lib.hid (by rw [HT.out]; exact HOV.out), HO3, HB4⟩, by simp [intOf]; omega⟩
                | false =>
                  have H1 := Lib.hid h1
                  cases h2 : endedB x y with
                  | true =>
                    have HOV := Lib.hid (show overB y x = false by simp [overB, h2])
                    have H2 := Lib.hid h2
                    clear hwh h1 h2
                    go_wp2
                    go_region_held3 (fun w' => w'.cell? ⟨P, 0, none⟩ = some (.int .i64 x.who) ∧ w'.cell? ⟨P, 1, none⟩ = some (.int .i64 x.op) ∧ w'.cell? ⟨P, 2, none⟩ = some (.int .i64 x.v.t) ∧ w'.cell? ⟨P, 3, none⟩ = some (.int .i64 x.v.n) ∧ w'.cell? ⟨P, 4, none⟩ = some (.int .i64 x.fro) ∧ w'.cell? ⟨P, 5, none⟩ = some (.int .i64 x.til) ∧ w'.cell? ⟨g, off + m * 6, none⟩ = some (.int .i64 y.who) ∧ w'.cell? ⟨g, off + m * 6 + 1, none⟩ = some (.int .i64 y.op) ∧ w'.cell? ⟨g, off + m * 6 + 2, none⟩ = some (.int .i64 y.v.t) ∧ w'.cell? ⟨g, off + m * 6 + 3, none⟩ = some (.int .i64 y.v.n) ∧ w'.cell? ⟨g, off + m * 6 + 4, none⟩ = some (.int .i64 y.fro) ∧ w'.cell? ⟨g, off + m * 6 + 5, none⟩ = some (.int .i64 y.til))
                      (first | exact ⟨r0, r1, r2, r3, r4, r5, t0, t1, t2, t3, t4, t5⟩ | exact ⟨v0, v1, v2, v3, v4, v5, z0, z1, z2, z3, z4, z5⟩ | (go_keep; done))
                      (first
                        | (go_at_call 66; (with_reducible refine (before_v B w0 F y x _ HO2.out.drew).mono ?_); rintro e w3 ⟨rfl, hO3, hB3⟩; rw [H1.out]; have HBX := Lib.hid ((Below.refl wr.heap.size wr).drew.trans hB3); obtain ⟨r0, r1, r2, r3, r4, r5⟩ := HQ6.out.later HBX.out; obtain ⟨t0, t1, t2, t3, t4, t5⟩ := HY6.out.later HBX.out; simp only [Nat.zero_add] at r1 r2 r3 r4 r5; have HO3 := Lib.hid hO3; have HB4 := Lib.hid (HB2.out.drew.trans (hB3.mono HB2.out.size)); clear hO3 hB3)
                        | (go_at_call 66; (with_reducible refine (before_v B w0 F x y _ HO3.out).mono ?_); rintro e w5 ⟨rfl, hO5, hB5⟩; rw [H2.out]; have HBY := Lib.hid (HBX.out.trans (hB5.mono HBX.out.size)); obtain ⟨v0, v1, v2, v3, v4, v5⟩ := HQ6.out.later HBY.out; obtain ⟨z0, z1, z2, z3, z4, z5⟩ := HY6.out.later HBY.out; simp only [Nat.zero_add] at v1 v2 v3 v4 v5; have HO5 := Lib.hid hO5; have HB5 := Lib.hid (HB4.out.trans (hB5.mono HB4.out.size)); clear hO5 hB5)
                        | fail "no arm")
                    go_wp2
                    exact ⟨⟨m + 1, by omega, by go_num, Lib.hid (by rw [HT.out]; exact HOV.out), HO5, HB5⟩, by simp [intOf]; omega⟩
                  | false =>
                    have HRR := Lib.hid (show res = 230 by rw [← HRES.out]; exact chk_yes hlt (by rw [HNK.out, HIN.out (by simp [overB, h1, h2, hwh])]; simp))
                    have H2 := Lib.hid h2
                    clear hwh h1 h2
                    go_wp2
                    go_region_held3 (fun w' => w'.cell? ⟨P, 0, none⟩ = some (.int .i64 x.who) ∧ w'.cell? ⟨P, 1, none⟩ = some (.int .i64 x.op) ∧ w'.cell? ⟨P, 2, none⟩ = some (.int .i64 x.v.t) ∧ w'.cell? ⟨P, 3, none⟩ = some (.int .i64 x.v.n) ∧ w'.cell? ⟨P, 4, none⟩ = some (.int .i64 x.fro) ∧ w'.cell? ⟨P, 5, none⟩ = some (.int .i64 x.til) ∧ w'.cell? ⟨g, off + m * 6, none⟩ = some (.int .i64 y.who) ∧ w'.cell? ⟨g, off + m * 6 + 1, none⟩ = some (.int .i64 y.op) ∧ w'.cell? ⟨g, off + m * 6 + 2, none⟩ = some (.int .i64 y.v.t) ∧ w'.cell? ⟨g, off + m * 6 + 3, none⟩ = some (.int .i64 y.v.n) ∧ w'.cell? ⟨g, off + m * 6 + 4, none⟩ = some (.int .i64 y.fro) ∧ w'.cell? ⟨g, off + m * 6 + 5, none⟩ = some (.int .i64 y.til))
                      (first | exact ⟨r0, r1, r2, r3, r4, r5, t0, t1, t2, t3, t4, t5⟩ | exact ⟨v0, v1, v2, v3, v4, v5, z0, z1, z2, z3, z4, z5⟩ | (go_keep; done))
                      (first
                        | (go_at_call 66; (with_reducible refine (before_v B w0 F y x _ HO2.out.drew).mono ?_); rintro e w3 ⟨rfl, hO3, hB3⟩; rw [H1.out]; have HBX := Lib.hid ((Below.refl wr.heap.size wr).drew.trans hB3); obtain ⟨r0, r1, r2, r3, r4, r5⟩ := HQ6.out.later HBX.out; obtain ⟨t0, t1, t2, t3, t4, t5⟩ := HY6.out.later HBX.out; simp only [Nat.zero_add] at r1 r2 r3 r4 r5; have HO3 := Lib.hid hO3; have HB4 := Lib.hid (HB2.out.drew.trans (hB3.mono HB2.out.size)); clear hO3 hB3)
                        | (go_at_call 66; (with_reducible refine (before_v B w0 F x y _ HO3.out).mono ?_); rintro e w5 ⟨rfl, hO5, hB5⟩; rw [H2.out]; have HBY := Lib.hid (HBX.out.trans (hB5.mono HBX.out.size)); obtain ⟨v0, v1, v2, v3, v4, v5⟩ := HQ6.out.later HBY.out; obtain ⟨z0, z1, z2, z3, z4, z5⟩ := HY6.out.later HBY.out; simp only [Nat.zero_add] at v1 v2 v3 v4 v5; have HO5 := Lib.hid hO5; have HB5 := Lib.hid (HB4.out.trans (hB5.mono HB4.out.size)); clear hO5 hB5)
                        | fail "no arm")
                    go_wp2
                    go_ret
                    exact ⟨by rw [HRR.out]; rfl, HO5.out, HB1.out.trans (HB5.out.mono HB1.out.size)⟩
              · have hwb : (y.who == x.who) = false := by simp [hwh]
                have HOV := Lib.hid (show overB y x = false by simp [overB, hwh])
                clear hwh
                go_wp2
                go_quiet (fail)
                go_wp2
                exact ⟨⟨m + 1, by omega, by go_num, Lib.hid (by rw [HT.out]; exact HOV.out), Lib.hid (HO2.out.drewN nq), Lib.hid (below_drewN HB2.out nq)⟩, by simp [intOf]; omega⟩
            · obtain rfl : m = k := by omega
              have HNB := Lib.hid (show nokB xs m = false by rw [HNK.out, HBD.out, HN2.out]; rfl)
              have HN3 := Lib.hid (show ∀ j, j < m + 1 → nokB xs j = false from fun j hj => by
                rcases Nat.lt_succ_iff_lt_or_eq.1 hj with h' | rfl
                · exact HN.out j h'
                · exact HNB.out)
              have HB3 := Lib.hid (HB1.out.trans (HB2.out.mono HB1.out.size))
              go_wp2
              exact ⟨⟨m + 1, by omega, by go_num, Lib.hid HN3.out, HO2, HB3⟩, by simp [intOf]; omega⟩
    · obtain rfl : k = xs.length := by omega
      have HRR := Lib.hid (show res = 0 by rw [← HRES.out]; exact chk_no HN.out)
      go_wp2
      go_ret
      exact ⟨by rw [HRR.out]; rfl, HO.out, HB.out⟩

end Go.Proofs.Ytojcojoleodjmaa
