/-
  spec: contract of the document's Holds. Condition: few calls.
-/
import Derived.Test.YtojcojoleodjmaaSpQ
namespace Go.Proofs.Ytojcojoleodjmaa
open Go.RowKit Go.Shelf Go.Sh
attribute [local go_sem ↓] Go.wp_at_zero Go.wp_at_succ

/-- Every call with an end is in the order. -/
def fullB (xs : List C6) (o : List Int) : Bool := (List.range xs.length).all fun i => (xs.getD i default).til == 0 || o.contains (i : Int)
def goD (kind : Int) (xs : List C6) : List Int → List Int → Dst → Bool
  | [], o, _ => fullB xs o
  | n :: ks, o, s => if n < 0 ∨ (xs.length : Int) ≤ n then false else if o.contains n = true then false else if lateB xs (xs.getD n.toNat default) o = true then false
    else if (doesD kind s (xs.getD n.toNat default)).2 = true then goD kind xs ks (o ++ [n]) (doesD kind s (xs.getD n.toNat default)).1 else false
def d0 : Dst := ⟨[], ⟨4, 0⟩⟩
def holdsD (kind : Int) (xs : List C6) (ks : List Int) : Bool := knownB kind && (checkR xs == 0 && goD kind xs ks [] d0)

theorem full_no {xs : List C6} {o : List Int} {k : Nat} {x : C6} (hx : xs[k]? = some x) (ht : x.til ≠ 0) (ho : o.contains (k : Int) = false) : fullB xs o = false := by
  unfold fullB
  rw [Bool.eq_false_iff]
  intro h
  obtain ⟨hk, he⟩ := List.getElem?_eq_some_iff.1 hx
  have := List.all_eq_true.1 h k (List.mem_range.2 hk)
  simp [hk, he, ht] at this
  rw [List.contains_iff_mem.2 this] at ho
  cases ho
theorem full_yes {xs : List C6} {o : List Int} (h : ∀ j, j < xs.length → ((xs.getD j default).til == 0 || o.contains (j : Int)) = true) : fullB xs o = true :=
  List.all_eq_true.2 fun j hj => h j (List.mem_range.1 hj)
theorem doesD_len (kind : Int) (s : Dst) (c : C6) : (doesD kind s c).1.l.length ≤ s.l.length + 1 := by
  unfold doesD
  split
  · split <;> simp
  · split
    · simp
    · cases hs : s.l with
      | nil => simp [hs]
      | cons x r =>
        show ((if _ then _ else _ : Dst × Bool)).1.l.length ≤ _
        split <;> simp [hs] <;> omega

theorem hd_a {B : Nat} {w0 w : World} {d j : Nat × Obj} {L F : List (Nat × Obj)} (h : Sh.Own B w0 w (d :: j :: (L ++ F))) : Sh.Own B w0 w (d :: (L ++ (j :: F))) := h.shuf [[d], [j], L, F] [0, 2, 1, 3] rfl rfl
theorem hd_b {B : Nat} {w0 w : World} {d j : Nat × Obj} {L F : List (Nat × Obj)} (h : Sh.Own B w0 w (d :: (L ++ (j :: F)))) : Sh.Own B w0 w (d :: j :: (L ++ F)) := h.shuf [[d], L, [j], F] [0, 2, 1, 3] rfl rfl

set_option maxRecDepth 100000 in
set_option maxHeartbeats 4000000 in
theorem holds41 (B : Nat) (w0 : World) (F : List (Nat × Obj)) (kind : Int) (ao : Option Addr) (nn cap : Nat) (xs : List C6) (ks : List Int) (vk : Value) (w : World) (hR : RdA B w0 F (.slice ao nn cap) xs) (hK : ∀ w', Sh.Own B w0 w' F → Rd w' I vk ks) (hO : Sh.Own B w0 w F) (hnc : nn ≤ cap) (hx : xs.length ≤ 900) (hks : ks.length ≤ 1000) :
    Calls Try.prog 41 #[.int .i64 kind, .slice ao nn cap, vk] w (BoolD B w0 F (holdsD kind xs ks)) := by
  have hcap : ∀ a n c, Value.slice ao nn cap = .slice a n c → n ≤ c := by
    intro a n c h
    simp only [Value.slice.injEq] at h
    obtain ⟨_, rfl, rfl⟩ := h
    exact hnc
  obtain ⟨ao2, cap2, rfl⟩ : ∃ a c, vk = .slice a ks.length c := by
    rcases hK w hO with ⟨rfl, a, c, rfl⟩ | ⟨g, off, c, rfl, _⟩ <;> exact ⟨_, _, rfl⟩
  have HC := Lib.hid (check39 B w0 F xs (.slice ao nn cap) w (hR w hO) hO (by omega) hcap)
  have HO := Lib.hid hO
  obtain ⟨c, hc⟩ : ∃ c, checkR xs = c := ⟨_, rfl⟩
  rw [hc] at HC
  cases hk : knownB kind with
  | false =>
    have HH := Lib.hid (show holdsD kind xs ks = false by unfold holdsD; rw [hk]; rfl)
    have k1 : (kind != 1) = true := by unfold knownB at hk; simp at hk ⊢; exact hk.1
    have k2 : (kind != 2) = true := by unfold knownB at hk; simp at hk ⊢; exact hk.2
    clear hR hK hO hk hc hcap
    go_enter Try.func41, Try.ntmps41
    go_wp2
    go_ret
    exact ⟨by rw [HH.out]; rfl, HO.out⟩
  | true =>
    have hkn : (kind != 1) = false ∨ ((kind != 1) = true ∧ (kind != 2) = false) := by
      unfold knownB at hk
      by_cases h : kind = 1
      · exact .inl (by simp [h])
      · exact .inr (by simp [h] at hk ⊢; exact hk)
    by_cases h0 : c = 0
    · subst h0
      have HH := Lib.hid (show holdsD kind xs ks = goD kind xs ks [] d0 by unfold holdsD; rw [hk, hc]; rfl)
      have HR := Lib.hid hR
      have HK := Lib.hid hK
      obtain ⟨_, _, hlv, _⟩ := rd_cc (hR w hO)
      simp only [Value.slice.injEq] at hlv
      obtain ⟨rfl, hnx, rfl⟩ := hlv
      have HNX := Lib.hid hnx.symm
      have hnn : nn ≤ 900 := by omega
      clear hR hK hO hk hc hcap hnx hx
      go_enter Try.func41, Try.ntmps41
      go_upto_region 1 with fail
      go_cut [23] (fun s23 wc => s23 = .bool false ∧ Hid (Sh.Own B w0 wc F))
      case first =>
        rcases hkn with k1 | ⟨k1, k2⟩
        · go_wp2_with (go_at_call 39; refine HC.out.mono ?_; rintro e w1 ⟨rfl, hO1, _⟩)
          go_meet
          exact ⟨rfl, Lib.hid hO1⟩
        · go_wp2_with (go_at_call 39; refine HC.out.mono ?_; rintro e w1 ⟨rfl, hO1, _⟩)
          go_meet
          exact ⟨rfl, Lib.hid hO1⟩
      case rest =>
        obtain ⟨rfl, HO1⟩ := hcut
        clear hkn HC HO
        obtain ⟨i0, hi, hz0, hz1, hz2⟩ := info_parts Try.info4
        have hmk := run_makeSlice (P := Try.prog) (w := wc) 40 4 i0 _ Try.underlying40 hi hz0 .i64 .i64 nn nn (by omega) (by omega) (by rw [hz1]; omega) (by rw [hz2]; omega) (by omega)
        rw [hz1, Int.toNat_natCast, made_arrJ] at hmk
        have HO2 := Lib.hid ((HO1.out.allocAt (obJ nn []) (n := wc.heap.size) rfl).allocAt (obD (.slice none 0 0) ⟨4, 0⟩) (n := wc.heap.size + 1) (by simp))
        clear hi hz0 hz1 hz2 HO1
        go_wp2
        clear hmk
        go_loopw [9] (fun i wr => ∃ (k : Nat) (s : Dst) (vl : Value) (Ll : List (Nat × Obj)), k ≤ ks.length ∧ i = .int .i64 k ∧ Hid (goD kind xs (ks.drop k) (ks.take k) s = goD kind xs ks [] d0) ∧ Hid (Sl 77 2 C2 vl s.l Ll) ∧ Hid (Sh.Own B w0 wr ((wc.heap.size + 1, obD vl s.v) :: (wc.heap.size, obJ nn (ks.take k)) :: (Ll ++ F))) ∧ Hid ((∀ j ∈ ks.take k, 0 ≤ j ∧ j < xs.length) ∧ s.l.length ≤ k)) (fun i _ => ks.length - (intOf i).toNat)
        case atStart => exact ⟨0, d0, _, [], Nat.zero_le _, rfl, Lib.hid rfl, Lib.hid Sl.nil, HO2, Lib.hid ⟨by simp, by simp [d0]⟩⟩
        case round =>
          obtain ⟨k, s, vl, Ll, hk, rfl, HG, HS, HX, HP⟩ := hrel
          clear HO2
          by_cases hlt : k < ks.length
          · obtain ⟨q, hq⟩ : ∃ q, ks[k] = q := ⟨_, rfl⟩
            have hO' := HX.out
            have hdk : ks.drop k = q :: ks.drop (k + 1) := by rw [← hq]; exact List.drop_eq_getElem_cons hlt
            have hkc : ∃ g off, ao2 = some ⟨g, off, none⟩ ∧ g < wr.heap.size ∧ wr.cell? ⟨g, off + k, none⟩ = some (.int .i64 q) := by
              rcases HK.out wr hO'.tail.tail.right with ⟨h, _⟩ | ⟨g, off, cc, he, h⟩
              · rw [h] at hlt; simp at hlt
              · simp only [Value.slice.injEq] at he
                obtain ⟨rfl, _, _⟩ := he
                have := h k (.int .i64 q) (by rw [flatI]; simp [hlt, hq])
                exact ⟨g, off, rfl, World.block_lt_of_cell? _ _ this, this⟩
            obtain ⟨gk, ok, rfl, hgk, kc⟩ := hkc
            have ik : (k : Int) < ks.length := by omega
            have ik0 : (0 : Int) ≤ k := by omega
            by_cases hneg : q < 0
            · have HF := Lib.hid (show goD kind xs ks [] d0 = false by rw [← HG.out, hdk]; unfold goD; rw [if_pos (.inl hneg)])
              have HO4 := Lib.hid hO'.tail.tail.right
              clear hO' hdk hq
              go_wp2
              go_ret
              exact ⟨by rw [HH.out, HF.out]; rfl, HO4.out⟩
            · by_cases hbig : (xs.length : Int) ≤ q
              · have HF := Lib.hid (show goD kind xs ks [] d0 = false by rw [← HG.out, hdk]; unfold goD; rw [if_pos (.inr hbig)])
                have HO4 := Lib.hid hO'.tail.tail.right
                have hbig2 : (nn : Int) ≤ q := by rw [HNX.out] at hbig; exact hbig
                clear hO' hdk hq hbig
                go_wp2
                go_ret
                exact ⟨by rw [HH.out, HF.out]; rfl, HO4.out⟩
              · obtain ⟨p, rfl, hp⟩ : ∃ p : Nat, q = (p : Int) ∧ p < nn := ⟨q.toNat, by omega, by rw [HNX.out] at hbig; omega⟩
                obtain ⟨x, hx⟩ : ∃ x, xs[p]? = some x := ⟨xs[p]'(by rw [HNX.out]; exact hp), List.getElem?_eq_getElem _⟩
                have hxd : xs.getD p default = x := by simp [hx]
                have jc : wr.cell? ⟨wc.heap.size, p, none⟩ = some (.bool ((ks.take k).contains (p : Int))) := (cell_of_get hO'.tail.head p).trans (arrJ_get _ hp)
                have jl := lt_of_get hO'.tail.head
                have ip : (p : Int) < nn := by omega
                have ip0 : (0 : Int) ≤ p := by omega
                have bp0 : decide ((p : Int) < 0) = false := by simp
                have bp1 : decide ((nn : Int) ≤ (p : Int)) = false := by simp; omega
                have bp2 : decide (nn ≤ p) = false := by simp; omega
                have hgo : goD kind xs (ks.drop k) (ks.take k) s = if (ks.take k).contains (p : Int) = true then false else if lateB xs x (ks.take k) = true then false
                    else if (doesD kind s x).2 = true then goD kind xs (ks.drop (k + 1)) (ks.take k ++ [(p : Int)]) (doesD kind s x).1 else false := by
                  rw [hdk]
                  show (if (p : Int) < 0 ∨ (xs.length : Int) ≤ p then false else _) = _
                  rw [if_neg (by rw [HNX.out]; omega), Int.toNat_natCast, hxd]
                cases hc : (ks.take k).contains (p : Int) with
                | true =>
                  have HO4 := Lib.hid hO'.tail.tail.right
                  have HF := Lib.hid (show goD kind xs ks [] d0 = false by rw [← HG.out, hgo, if_pos hc])
                  rw [hc] at jc
                  clear hO' hdk hq hbig hneg hgo hc hx hxd
                  go_wp2
                  go_ret
                  exact ⟨by rw [HH.out, HF.out]; rfl, HO4.out⟩
                | false =>
                  rw [hc] at jc
                  have HGO := Lib.hid hgo
                  have HC := Lib.hid hc
                  have HXX := Lib.hid hx
                  have HQ := Lib.hid hq
                  clear hO' hdk hq hbig hneg hgo hc hx hxd
                  go_wp2
                  clear kc jc hgk jl
                  go_loopw [11] (fun i wr => ∃ m : Nat, m ≤ k ∧ i = .int .i64 m ∧ Hid (lateB xs x (ks.take m) = false) ∧ Hid (Sh.Own B w0 wr ((wc.heap.size + 1, obD vl s.v) :: (wc.heap.size, obJ nn (ks.take k)) :: (Ll ++ F)))) (fun i _ => k - (intOf i).toNat)
                  case atStart => exact ⟨0, Nat.zero_le _, rfl, Lib.hid (by simp [lateB]), HX⟩
                  case round =>
                    obtain ⟨m, hm, rfl, HL, HX2⟩ := hrel
                    clear HX
                    obtain ⟨gl, ol, cl, he, hAt⟩ := rda_at HR.out HX2.out.tail.tail.right HNX.out.symm HXX.out
                    simp only [Value.slice.injEq, true_and] at he
                    obtain ⟨rfl, rfl⟩ := he
                    have HAT := Lib.hid hAt
                    by_cases hlt2 : m < k
                    · have hm2 : m < ks.length := by omega
                      obtain ⟨z, hz, hzx⟩ : ∃ z : Nat, ks[m] = (z : Int) ∧ z < xs.length := by
                        have := HP.out.1 ks[m] (List.mem_take_iff_getElem.2 ⟨m, by omega, rfl⟩)
                        exact ⟨ks[m].toNat, by omega, by omega⟩
                      have kc : gk < wr.heap.size ∧ wr.cell? ⟨gk, ok + m, none⟩ = some (.int .i64 z) := by
                        rcases HK.out wr HX2.out.tail.tail.right with ⟨h, _⟩ | ⟨g, off, cc, he, h⟩
                        · rw [h] at hm2; simp at hm2
                        · simp only [Value.slice.injEq, Option.some.injEq, Addr.mk.injEq, and_true] at he
                          obtain ⟨⟨rfl, rfl⟩, _, _⟩ := he
                          have := h m (.int .i64 z) (by rw [flatI]; simp [hm2, hz])
                          exact ⟨World.block_lt_of_cell? _ _ this, this⟩
                      obtain ⟨y, hy⟩ : ∃ y, xs[z]? = some y := ⟨xs[z], List.getElem?_eq_getElem _⟩
                      obtain ⟨gl2, ol2, cl2, he2, hAt2⟩ := rda_at HR.out HX2.out.tail.tail.right HNX.out.symm hy
                      simp only [Value.slice.injEq, true_and, Option.some.injEq, Addr.mk.injEq, and_true] at he2
                      obtain ⟨⟨rfl, rfl⟩, rfl⟩ := he2
                      obtain ⟨hgl, e0, e1, e2, e3, e4, e5⟩ := hAt _ HX2.out.tail.tail.right
                      obtain ⟨_, f0, f1, f2, f3, f4, f5⟩ := hAt2 _ HX2.out.tail.tail.right
                      obtain ⟨hgk, kcc⟩ := kc
                      have HT := Lib.hid (show lateB xs x (ks.take (m + 1)) = endedB x y by
                        have h1 := HL.out
                        unfold lateB at h1 ⊢
                        rw [List.take_succ_eq_append_getElem hm2, List.any_append, h1, hz]
                        simp [hy])
                      have HIN := Lib.hid (show endedB x y = true → lateB xs x (ks.take k) = true from fun h => List.any_eq_true.2 ⟨ks[m], List.mem_take_iff_getElem.2 ⟨m, by omega, rfl⟩, by rw [hz]; simpa [hy] using h⟩)
                      have im : (m : Int) < k := by omega
                      have im0 : (0 : Int) ≤ m := by omega
                      have im2 : (m : Int) < ks.length := by omega
                      have iz : (z : Int) < nn := by rw [← HNX.out]; omega
                      have iz0 : (0 : Int) ≤ z := by omega
                      clear hz hzx hy hAt hAt2 HAT
                      cases hb : endedB x y with
                      | true =>
                        have HB := Lib.hid hb
                        have HF := Lib.hid (show goD kind xs ks [] d0 = false by rw [← HG.out, HGO.out, if_neg (by rw [HC.out]; simp), if_pos (HIN.out hb)])
                        clear hb
                        go_wp2
                        go_region_with (go_at_call 66; (with_reducible refine (before_v B w0 _ x y _ HX2.out.drew).mono ?_); rintro e w3 ⟨rfl, hO3, hB3⟩; rw [HB.out])
                        all_goals
                          have HO3 := Lib.hid hO3.tail.tail.right
                          clear hO3 hB3
                          go_wp2
                          go_ret
                          exact ⟨by rw [HH.out, HF.out]; rfl, HO3.out⟩
                      | false =>
                        have HB := Lib.hid hb
                        clear hb
                        go_wp2
                        go_region_with (go_at_call 66; (with_reducible refine (before_v B w0 _ x y _ HX2.out.drew).mono ?_); rintro e w3 ⟨rfl, hO3, hB3⟩; rw [HB.out])
                        all_goals
                          have HO3 := Lib.hid hO3
                          clear hO3 hB3
                          go_wp2
                          exact ⟨⟨m + 1, by omega, by go_num, Lib.hid (by rw [HT.out]; exact HB.out), HO3⟩, by simp [intOf]; omega⟩
                    · obtain rfl : m = k := by omega
                      have HF := Lib.hid (show (if (doesD kind s x).2 = true then goD kind xs (ks.drop (m + 1)) (ks.take m ++ [(p : Int)]) (doesD kind s x).1 else false) = goD kind xs ks [] d0 by rw [← HG.out, HGO.out, HC.out, HL.out]; simp only [Bool.false_eq_true, if_false])
                      have jc : wr.cell? ⟨wc.heap.size, p, none⟩ = some (.bool ((ks.take m).contains (p : Int))) := (cell_of_get HX2.out.tail.head p).trans (arrJ_get _ hp)
                      have jl := lt_of_get HX2.out.tail.head
                      have jf := free_of_get HX2.out.tail.head
                      have hO3 := own_swap ((own_swap HX2.out).setTo p (.bool true) (arrJ_push (ks.take m) hp))
                      have HX3 := Lib.hid hO3
                      clear hO3 hAt
                      go_upto_region 17 with fail
                      generalize wr.setCell ⟨wc.heap.size, p, none⟩ (.bool true) = W at HX3 ⊢
                      clear jc jl jf HX2
                      obtain ⟨hgl, e0, e1, e2, e3, e4, e5⟩ := HAT.out _ HX3.out.tail.tail.right
                      have HDOES := Lib.hid (does71 B w0 (wc.heap.size + 1) _ kind s vl Ll x W HS.out (by have := HP.out.2; omega) (hd_a HX3.out))
                      obtain ⟨r, hr⟩ : ∃ r, doesD kind s x = r := ⟨_, rfl⟩
                      have hdl := doesD_len kind s x
                      rw [hr] at HDOES HF hdl
                      obtain ⟨s', b⟩ := r
                      cases b with
                      | false =>
                        have HFF := Lib.hid (show goD kind xs ks [] d0 = false by rw [← HF.out]; rfl)
                        clear hr hdl HF
                        go_wp2_with (go_at_call 71; refine HDOES.out.mono ?_; rintro e w5 ⟨rfl, vl2, Ll2, hS5, hO5⟩)
                        go_ret
                        exact ⟨by rw [HH.out, HFF.out]; rfl, hO5.tail.right.tail⟩
                      | true =>
                        have HTK := Lib.hid (show ks.take (m + 1) = ks.take m ++ [(p : Int)] by rw [List.take_succ_eq_append_getElem hlt, HQ.out])
                        have HFF := Lib.hid (show goD kind xs (ks.drop (m + 1)) (ks.take (m + 1)) s' = goD kind xs ks [] d0 by rw [← HF.out, HTK.out]; rfl)
                        have HP3 := Lib.hid (show (∀ j ∈ ks.take (m + 1), 0 ≤ j ∧ j < xs.length) ∧ s'.l.length ≤ m + 1 by
                          have h2 := HP.out.2
                          refine ⟨fun j hj => ?_, by simp at hdl; omega⟩
                          rw [HTK.out] at hj
                          rcases List.mem_append.1 hj with h | h
                          · exact HP.out.1 j h
                          · simp at h; subst h; rw [HNX.out]; omega)
                        clear hr hdl HF
                        go_wp2_with (go_at_call 71; refine HDOES.out.mono ?_; rintro e w5 ⟨rfl, vl2, Ll2, hS5, hO5⟩; have HS5 := Lib.hid hS5; have HO5 := Lib.hid (hd_b hO5); clear hS5 hO5)
                        exact ⟨⟨m + 1, s', vl2, Ll2, by omega, by go_num, HFF, HS5, by rw [HTK.out]; exact HO5, HP3⟩, by simp [intOf]; omega⟩
          · obtain rfl : k = ks.length := by omega
            have HF := Lib.hid (show fullB xs ks = goD kind xs ks [] d0 by
              have h := HG.out
              rw [List.drop_length, List.take_length] at h
              exact h)
            have HX1 := Lib.hid (show Sh.Own B w0 wr ((wc.heap.size + 1, obD vl s.v) :: (wc.heap.size, obJ nn ks) :: (Ll ++ F)) by have h := HX.out; rwa [List.take_length] at h)
            clear HX HG
            go_wp2
            go_loopw [12] (fun i wr => ∃ m : Nat, m ≤ nn ∧ i = .int .i64 m ∧ Hid (∀ j, j < m → ((xs.getD j default).til == 0 || ks.contains (j : Int)) = true) ∧ Hid (Sh.Own B w0 wr ((wc.heap.size + 1, obD vl s.v) :: (wc.heap.size, obJ nn ks) :: (Ll ++ F)))) (fun i _ => nn - (intOf i).toNat)
            case atStart => exact ⟨0, Nat.zero_le _, rfl, Lib.hid (fun _ h => by omega), HX1⟩
            case round =>
              obtain ⟨m, hm, rfl, HN, HX2⟩ := hrel
              clear HX1
              by_cases hlt2 : m < nn
              · obtain ⟨x, hx⟩ : ∃ x, xs[m]? = some x := ⟨xs[m]'(by rw [HNX.out]; exact hlt2), List.getElem?_eq_getElem _⟩
                obtain ⟨gl, ol, cl, he, hAt⟩ := rda_at HR.out HX2.out.tail.tail.right HNX.out.symm hx
                simp only [Value.slice.injEq, true_and] at he
                obtain ⟨rfl, rfl⟩ := he
                obtain ⟨hgl, e0, e1, e2, e3, e4, e5⟩ := hAt _ HX2.out.tail.tail.right
                have jc : wr.cell? ⟨wc.heap.size, m, none⟩ = some (.bool (ks.contains (m : Int))) := (cell_of_get HX2.out.tail.head m).trans (arrJ_get _ hlt2)
                have jl := lt_of_get HX2.out.tail.head
                have im : (m : Int) < nn := by omega
                have im0 : (0 : Int) ≤ m := by omega
                have hxd : xs.getD m default = x := by simp [hx]
                have hnext : ∀ b : (x.til == 0 || ks.contains (m : Int)) = true, ∀ j, j < m + 1 → ((xs.getD j default).til == 0 || ks.contains (j : Int)) = true := fun b j hj => by
                  rcases Nat.lt_succ_iff_lt_or_eq.1 hj with h' | rfl
                  · exact HN.out j h'
                  · rw [hxd]; exact b
                have HNEXT := Lib.hid hnext
                have HXX := Lib.hid hx
                clear hAt hx hxd hnext
                by_cases ht : x.til = 0
                · have hb : (x.til != 0) = false := by simp [ht]
                  have HT := Lib.hid ht
                  clear ht
                  go_wp2
                  exact ⟨⟨m + 1, by omega, by go_num, Lib.hid (HNEXT.out (by rw [HT.out]; rfl)), HX2⟩, by simp [intOf]; omega⟩
                · have hb : (x.til != 0) = true := by simp [ht]
                  have HT := Lib.hid ht
                  clear ht
                  cases hc : ks.contains (m : Int) with
                  | true =>
                    have HC := Lib.hid hc
                    rw [hc] at jc
                    clear hc
                    go_wp2
                    exact ⟨⟨m + 1, by omega, by go_num, Lib.hid (HNEXT.out (by rw [HC.out]; simp)), HX2⟩, by simp [intOf]; omega⟩
                  | false =>
                    have HFF := Lib.hid (show goD kind xs ks [] d0 = false by rw [← HF.out]; exact full_no HXX.out HT.out hc)
                    rw [hc] at jc
                    clear hc
                    go_wp2
                    go_ret
                    exact ⟨by rw [HH.out, HFF.out]; rfl, HX2.out.tail.tail.right⟩
              · obtain rfl : m = nn := by omega
                have HFF := Lib.hid (show goD kind xs ks [] d0 = true by rw [← HF.out]; exact full_yes (by rw [HNX.out]; exact HN.out))
                go_wp2
                go_ret
                exact ⟨by rw [HH.out, HFF.out]; rfl, HX2.out.tail.tail.right⟩
    · have hb : (c != 0) = true := by simp [h0]
      have HH := Lib.hid (show holdsD kind xs ks = false by unfold holdsD; rw [hk, hc]; simp [h0])
      clear hR hK hO hk hc hcap h0
      rcases hkn with k1 | ⟨k1, k2⟩
      · go_enter Try.func41, Try.ntmps41
        go_wp2_with (go_at_call 39; refine HC.out.mono ?_; rintro e w1 ⟨rfl, hO1, _⟩)
        go_ret
        exact ⟨by rw [HH.out]; rfl, hO1⟩
      · go_enter Try.func41, Try.ntmps41
        go_wp2_with (go_at_call 39; refine HC.out.mono ?_; rintro e w1 ⟨rfl, hO1, _⟩)
        go_ret
        exact ⟨by rw [HH.out]; rfl, hO1⟩

end Go.Proofs.Ytojcojoleodjmaa
