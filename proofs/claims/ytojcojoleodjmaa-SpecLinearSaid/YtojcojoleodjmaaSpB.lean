/-
  spec: contract of Check. No condition.
-/
import Derived.Test.YtojcojoleodjmaaSpA
namespace Go.Proofs.Ytojcojoleodjmaa
open Go.RowKit Go.Shelf Go.Sh

theorem rd_take {α : Type} {w : World} {enc : α → List Value} {ao : Option Addr} {n cap : Nat} {xs : List α} (h : Rd w enc (.slice ao n cap) xs) (k : Nat) (hk : k ≤ xs.length) : Rd w enc (.slice ao k cap) (xs.take k) := by
  rcases h with ⟨rfl, ao', cap', h⟩ | ⟨g, off, cap', h, hc⟩
  · obtain rfl : k = 0 := by simpa using hk
    exact .inl ⟨by simp, ao, cap, rfl⟩
  · simp only [Value.slice.injEq] at h
    obtain ⟨rfl, _, rfl⟩ := h
    refine .inr ⟨g, off, cap, by rw [List.length_take, Nat.min_eq_left hk], fun j u hu => hc j u ?_⟩
    have e : xs.flatMap enc = (xs.take k).flatMap enc ++ (xs.drop k).flatMap enc := by rw [← List.flatMap_append, List.take_append_drop]
    rw [e, List.getElem?_append_left (List.getElem?_eq_some_iff.1 hu).1]
    exact hu

def badB (c : C6) : Bool := ((c.op != 1 && c.op != 2) || decide (c.fro < 1)) || (c.til != 0 && decide (c.til ≤ c.fro))
/-- The k-th call may not be. -/
def nokB (xs : List C6) (k : Nat) : Bool := badB (xs.getD k default) || (xs.take k).any fun o => overB o (xs.getD k default)
def chkB (xs : List C6) : Bool := (List.range xs.length).any fun k => nokB xs k
def checkR (xs : List C6) : Int := if chkB xs = true then 230 else 0

theorem chk_yes {xs : List C6} {k : Nat} (hk : k < xs.length) (h : nokB xs k = true) : checkR xs = 230 := by
  unfold checkR chkB
  rw [if_pos (List.any_eq_true.2 ⟨k, List.mem_range.2 hk, h⟩)]
theorem chk_no {xs : List C6} (h : ∀ j, j < xs.length → nokB xs j = false) : checkR xs = 0 := by
  unfold checkR chkB
  rw [if_neg]
  intro hc
  obtain ⟨k, hk, h1⟩ := List.any_eq_true.1 hc
  rw [h k (List.mem_range.1 hk)] at h1
  cases h1

def IntJ (B : Nat) (w0 w : World) (F : List (Nat × Obj)) (n : Int) (e : Ending) (w' : World) : Prop := e = .returned (.int .i64 n) ∧ Own B w0 w' F ∧ Below w.heap.size w w'

set_option maxRecDepth 100000 in
set_option maxHeartbeats 4000000 in
theorem check38 (B : Nat) (w0 : World) (F : List (Nat × Obj)) (xs : List C6) (v : Value) (w : World) (hR : Rd w CC v xs) (hO : Own B w0 w F) (hx : xs.length ≤ 9223372036854775807) (hcap : ∀ ao n c, v = .slice ao n c → n ≤ c) :
    Calls Try.prog 38 #[v] w (IntJ B w0 w F (checkR xs)) := by
  have hR0 := hR
  obtain ⟨ao, cap, rfl, hr⟩ := rd_cc hR
  have hcp := hcap _ _ _ rfl
  have HR0 := Lib.hid hR0
  have HC := Lib.hid hr
  have HO := Lib.hid hO
  have HB0 := Lib.hid (Below.refl w.heap.size w)
  obtain ⟨res, hres⟩ : ∃ r, checkR xs = r := ⟨_, rfl⟩
  rw [hres]
  have HRES := Lib.hid hres
  clear hR hr hR0 hO hcap hres
  go_enter Try.func38, Try.ntmps38
  go_wp2
  go_loopw [8] (fun i wr => ∃ k : Nat, k ≤ xs.length ∧ i = .int .i64 k ∧ Hid (∀ j, j < k → nokB xs j = false) ∧ Hid (Own B w0 wr F) ∧ Hid (Below w.heap.size w wr)) (fun i _ => xs.length - (intOf i).toNat)
  case atStart => exact ⟨0, Nat.zero_le _, rfl, Lib.hid (fun _ h => by omega), HO, HB0⟩
  case round =>
    clear HO HB0
    obtain ⟨k, hk, rfl, HN, HO, HB⟩ := hrel
    by_cases hlt : k < xs.length
    · obtain ⟨g, off, rfl, hg, e0, e1, e2, e3, e4, e5⟩ := HC.out k hlt
      have c0 := (HB.out.cell (p := ⟨g, off + k * 6, none⟩) hg).trans e0
      have c1 := (HB.out.cell (p := ⟨g, off + k * 6 + 1, none⟩) hg).trans e1
      have c2 := (HB.out.cell (p := ⟨g, off + k * 6 + 2, none⟩) hg).trans e2
      have c3 := (HB.out.cell (p := ⟨g, off + k * 6 + 3, none⟩) hg).trans e3
      have c4 := (HB.out.cell (p := ⟨g, off + k * 6 + 4, none⟩) hg).trans e4
      have c5 := (HB.out.cell (p := ⟨g, off + k * 6 + 5, none⟩) hg).trans e5
      have hki : (k : Int) < xs.length := by omega
      obtain ⟨x, hxe⟩ : ∃ x, xs[k] = x := ⟨_, rfl⟩
      rw [hxe] at c0 c1 c2 c3 c4 c5
      have HNK := Lib.hid (show nokB xs k = (badB x || (xs.take k).any fun o => overB o x) by unfold nokB; rw [List.getD_eq_getElem?_getD, List.getElem?_eq_getElem hlt, hxe]; rfl)
      have hbl2 : Below w.heap.size w (wr.alloc (ob6 x)) := HB.out.alloc HB.out.size (ob6 x)
      have HRT := Lib.hid (rd_take (HR0.out.later hbl2) k (by omega))
      have HO1 := Lib.hid (HO.out.junk (ob6 x))
      have HX0 := Lib.hid (cells6 (heap_alloc_new wr (ob6 x)))
      have HB1 := Lib.hid hbl2
      clear e0 e1 e2 e3 e4 e5 hxe hbl2
      go_upto_region 4 with fail
      obtain ⟨P, hPe⟩ : ∃ P, wr.heap.size = P := ⟨_, rfl⟩
      rw [hPe] at HX0 ⊢
      generalize wr.alloc (.cells #[.int .i64 x.who, .int .i64 x.op, .int .i64 x.v.t, .int .i64 x.v.n, .int .i64 x.fro, .int .i64 x.til] 80) = W at HO1 HX0 HRT HB1 ⊢
      clear hPe c0 c1 c2 c3 c4 c5 HO HB
      obtain ⟨p0, p1, p2, p3, p4, p5⟩ := HX0.out
      simp only [Nat.zero_add] at p1 p2 p3 p4 p5
      have pl := World.block_lt_of_cell? _ _ p0
      have pl0 : P < W.heap.size := pl
      go_cut [37] (fun s37 wx => s37 = .bool (badB x) ∧ wx = W)
      case first =>
        by_cases h1 : x.op = 1
        · have b1 : (x.op != 1) = false := by simp [h1]
          by_cases h3 : x.fro < 1
          · have HRR := Lib.hid (show badB x = true by simp [badB, h3])
            clear h1
            go_wp2_with fail
            go_meet
            exact ⟨by rw [HRR.out], rfl⟩
          · by_cases h4 : x.til = 0
            · have b4 : (x.til != 0) = false := by simp [h4]
              have HRR := Lib.hid (show badB x = false by simp [badB, h1, h3, h4])
              clear h1 h4
              go_wp2_with fail
              go_meet
              exact ⟨by rw [HRR.out], rfl⟩
            · have b4 : (x.til != 0) = true := by simp [h4]
              have HRR := Lib.hid (show badB x = decide (x.til ≤ x.fro) by simp [badB, h1, h3, h4])
              clear h1 h4
              go_wp2_with fail
              go_meet
              exact ⟨by rw [HRR.out], rfl⟩
        · have b1 : (x.op != 1) = true := by simp [h1]
          by_cases h2 : x.op = 2
          · have b2 : (x.op != 2) = false := by simp [h2]
            by_cases h3 : x.fro < 1
            · have HRR := Lib.hid (show badB x = true by simp [badB, h3])
              clear h1 h2
              go_wp2_with fail
              go_meet
              exact ⟨by rw [HRR.out], rfl⟩
            · by_cases h4 : x.til = 0
              · have b4 : (x.til != 0) = false := by simp [h4]
                have HRR := Lib.hid (show badB x = false by simp [badB, h2, h3, h4])
                clear h1 h2 h4
                go_wp2_with fail
                go_meet
                exact ⟨by rw [HRR.out], rfl⟩
              · have b4 : (x.til != 0) = true := by simp [h4]
                have HRR := Lib.hid (show badB x = decide (x.til ≤ x.fro) by simp [badB, h2, h3, h4])
                clear h1 h2 h4
                go_wp2_with fail
                go_meet
                exact ⟨by rw [HRR.out], rfl⟩
          · have b2 : (x.op != 2) = true := by simp [h2]
            have HRR := Lib.hid (show badB x = true by simp [badB, h1, h2])
            clear h1 h2
            go_wp2_with fail
            go_meet
            exact ⟨by rw [HRR.out], rfl⟩
      case rest =>
        obtain ⟨rfl, rfl⟩ := hcut
        cases hb : badB x with
        | true =>
          have HRR := Lib.hid (show res = 230 by rw [← HRES.out]; exact chk_yes hlt (by rw [HNK.out, hb]; rfl))
          clear hb
          go_wp2
          go_ret
          exact ⟨by rw [HRR.out]; rfl, HO1.out, HB1.out⟩
        | false =>
          have HBD := Lib.hid hb
          have hk0 : (0 : Int) ≤ k := by omega
          have hkc : (k : Int) ≤ cap := by omega
          clear hb
          cases ho : (xs.take k).any fun o => overB o x with
          | true =>
            have HOV := Lib.hid ho
            have HRR := Lib.hid (show res = 230 by rw [← HRES.out]; exact chk_yes hlt (by rw [HNK.out, HBD.out, ho]; rfl))
            clear ho
            go_wp2_with fail
            refine (contf65 B w0 F (xs.take k) _ x P _ HRT.out HO1.out HX0.out (by simp; omega)).mono ?_
            rw [HOV.out]
            rintro e w2 ⟨rfl, hO2, hb2⟩
            have HB2 := Lib.hid (HB1.out.trans (hb2.mono HB1.out.size))
            clear hb2
            go_wp2
            go_ret
            exact ⟨by rw [HRR.out]; rfl, hO2, HB2.out⟩
          | false =>
            have HOV := Lib.hid ho
            have HN2 := Lib.hid (show ∀ j, j < k + 1 → nokB xs j = false from fun j hj => by
              rcases Nat.lt_succ_iff_lt_or_eq.1 hj with h' | rfl
              · exact HN.out j h'
              · rw [HNK.out, HBD.out, ho]; rfl)
            clear ho
            go_wp2_with fail
            refine (contf65 B w0 F (xs.take k) _ x P _ HRT.out HO1.out HX0.out (by simp; omega)).mono ?_
            rw [HOV.out]
            rintro e w2 ⟨rfl, hO2, hb2⟩
            have HB2 := Lib.hid (HB1.out.trans (hb2.mono HB1.out.size))
            have HO2 := Lib.hid hO2
            clear hb2 hO2
            go_wp2
            exact ⟨⟨k + 1, by omega, by go_num, HN2, HO2, HB2⟩, by simp [intOf]; omega⟩
    · obtain rfl : k = xs.length := by omega
      have HRR := Lib.hid (show res = 0 by rw [← HRES.out]; exact chk_no HN.out)
      go_wp2
      go_ret
      exact ⟨by rw [HRR.out]; rfl, HO.out, HB.out⟩

end Go.Proofs.Ytojcojoleodjmaa
