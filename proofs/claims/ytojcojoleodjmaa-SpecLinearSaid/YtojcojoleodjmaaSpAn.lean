/-
  spec: contracts of the document's Linear; of slices.EqualFunc at two slices of the same orders. Condition: few orders.
-/
import Derived.Test.YtojcojoleodjmaaSpAm
namespace Go.Proofs.Ytojcojoleodjmaa
open Go.RowKit Go.Shelf Go.Sh
attribute [local go_sem ↓] Go.wp_at_zero Go.wp_at_succ

def linOf (c : Int) (T : List (List Int)) : Lin := if c = 0 then (match T with | [] => ⟨[], false, 0⟩ | o :: _ => ⟨o, true, 0⟩) else ⟨[], false, c⟩
theorem linR_of (kind : Int) (xs : List C6) : linR kind xs = linOf (mayR kind xs) (allT kind xs) := by
  unfold linR linOf
  split
  · cases allT kind xs <;> rfl
  · rfl

set_option maxRecDepth 100000 in
set_option maxHeartbeats 4000000 in
theorem linear33 (B : Nat) (w0 : World) (F : List (Nat × Obj)) (kind : Int) (ao : Option Addr) (nn cap : Nat) (xs : List C6) (w : World) (hR : RdA B w0 F (.slice ao nn cap) xs) (hO : Sh.Own B w0 w F) (hnc : nn ≤ cap) (hx : xs.length ≤ 900) (hnx : xs.length = nn) (hN : xs.length ≤ 5 ∨ 8 < xs.length) :
    Calls Try.prog 33 #[.int .i64 kind, .slice ao nn cap] w (LinPost B w0 F (linR kind xs)) := by
  have HC := Lib.hid (all34 B w0 F kind ao nn cap xs w hR hO hnc hx hnx hN)
  obtain ⟨c, hc⟩ : ∃ c, mayR kind xs = c := ⟨_, rfl⟩
  obtain ⟨T, hT⟩ : ∃ T, allT kind xs = T := ⟨_, rfl⟩
  obtain ⟨r, hr⟩ : ∃ r, linR kind xs = r := ⟨_, rfl⟩
  have hl : linOf c T = r := by rw [← hr, ← hc, ← hT]; exact (linR_of kind xs).symm
  rw [hc, hT] at HC
  rw [hr]
  clear hR hO hnc hx hnx hN hr hT hc
  by_cases h0 : c = 0
  · subst h0
    cases T with
    | nil =>
      have HL := Lib.hid (show r = ⟨[], false, 0⟩ from hl.symm.trans rfl)
      clear hl
      go_enter Try.func33, Try.ntmps33
      go_wp2_with (go_at_call 34; refine HC.out.mono ?_; rintro e w1 ⟨v, L, rfl, hS, hO1⟩; obtain ⟨av, cv, rfl, _⟩ := slL_form hS)
      refine bodyPost_ret (v := .tuple #[.slice none 0 0, .bool false, .int .i64 0]) (by simp [results, Try.results33, go_sem]) rfl ?_
      rw [HL.out]
      exact ⟨_, [], rfl, Sl.nil, hO1.right⟩
    | cons x T =>
      have HL := Lib.hid (show r = ⟨x, true, 0⟩ from hl.symm.trans rfl)
      clear hl
      go_enter Try.func33, Try.ntmps33
      go_wp2_with fail
      refine HC.out.mono ?_
      rintro e w1 ⟨v, L, rfl, hS, hO1⟩
      obtain ⟨av, cv, rfl, _⟩ := slL_form hS
      obtain ⟨ss, L0, Lin, h1, h2, rfl⟩ := hS
      obtain ⟨s, Li, h3, h4, h5⟩ := h2.2 0 x rfl
      obtain ⟨hs0, hse⟩ := List.getElem?_eq_some_iff.1 h3
      obtain ⟨_, _, he, hr⟩ := rd_s1 (sl_rd6 h1 (fun p hp => hO1.get p (by simp [hp])))
      simp only [Value.slice.injEq] at he
      obtain ⟨rfl, hj, rfl⟩ := he
      clear hj
      obtain ⟨g, off, rfl, hg, hcell⟩ := hr 0 hs0
      rw [hse, Nat.add_zero] at hcell
      have HO2 := Lib.hid (show Sh.Own B w0 w1 (Li ++ F) from hO1.sub ((((sl_sub h4 h5).trans (List.sublist_append_right L0 Lin))).append (List.Sublist.refl F)))
      have H4 := Lib.hid h4
      obtain ⟨n, hn⟩ : ∃ n, (x :: T).length = n := ⟨_, rfl⟩
      have hnp : (0 : Int) < n := by have : 0 < (x :: T).length := by simp
                                     omega
      have hnb : ((n : Int) == 0) = false := by simp; omega
      rw [hn]
      clear h1 h2 h3 h4 h5 hs0 hse hr hO1 hn
      go_wp2
      refine bodyPost_ret (v := .tuple #[sv s, .bool true, .int .i64 0]) (by simp [results, Try.results33, go_sem]) rfl ?_
      rw [HL.out]
      exact ⟨_, Li, rfl, H4.out, HO2.out⟩
  · have HL := Lib.hid (show r = ⟨[], false, c⟩ by rw [← hl]; unfold linOf; rw [if_neg h0])
    have hb : (c != 0) = true := by simp [h0]
    clear hl h0
    go_enter Try.func33, Try.ntmps33
    go_wp2_with (go_at_call 34; refine HC.out.mono ?_; rintro e w1 ⟨v, L, rfl, hS, hO1⟩; obtain ⟨av, cv, rfl, _⟩ := slL_form hS)
    refine bodyPost_ret (v := .tuple #[.slice none 0 0, .bool false, .int .i64 c]) (by simp [results, Try.results33, go_sem]) rfl ?_
    rw [HL.out]
    exact ⟨_, [], rfl, Sl.nil, hO1.right⟩

set_option maxRecDepth 100000 in
set_option maxHeartbeats 4000000 in
theorem equalf35 (B : Nat) (w0 : World) (F : List (Nat × Obj)) (xss : List (List Int)) (v1 v2 : Value) (w : World) (h1 : RdL B w0 F v1 xss) (h2 : RdL B w0 F v2 xss) (hO : Sh.Own B w0 w F) (hx : xss.length ≤ 100000) (hin : ∀ x ∈ xss, x.length ≤ 100000) :
    Calls Try.prog 35 #[v1, v2, .func (.func 20) #[] #[]] w (BoolD B w0 F true) := by
  have eg : ∀ args w, (callFunc 20 args).run Try.prog w = .ok (.enter 20 args) w := enters_of Try.func20 (by kernel_rfl) rfl
  obtain ⟨ss, s1, s2, s3⟩ := h1
  obtain ⟨tt, t1, t2, t3⟩ := h2
  obtain ⟨a1, c1, rfl, _⟩ := rd_s1 (s2 w hO)
  obtain ⟨a2, c2, rfl, _⟩ := rd_s1 (t2 w hO)
  obtain ⟨n, hn⟩ : ∃ n, xss.length = n := ⟨_, rfl⟩
  rw [hn] at s1 t1
  rw [s1, t1]
  rw [s1] at s2
  rw [t1] at t2
  have S1' := Lib.hid s1
  have T1' := Lib.hid t1
  have S2 := Lib.hid s2
  have T2 := Lib.hid t2
  have S3 := Lib.hid s3
  have T3 := Lib.hid t3
  have HN := Lib.hid hn
  have HIN := Lib.hid hin
  have HO := Lib.hid hO
  have hnb : ((n : Int) != n) = false := by simp
  have hn5 : n ≤ 100000 := by omega
  clear s1 t1 s2 t2 s3 t3 hn hin hO
  go_enter Try.func35, Try.ntmps35
  go_wp2
  go_loopw [7, 17] (fun _ i wr => ∃ k : Nat, k ≤ n ∧ i = .int .i64 k ∧ Hid (Sh.Own B w0 wr F)) (fun _ i _ => n - (intOf i).toNat)
  case atStart => exact ⟨0, Nat.zero_le _, rfl, HO⟩
  case round =>
    clear HO
    obtain ⟨k, hk, rfl, HX⟩ := hrel
    by_cases hlt : k < n
    · obtain ⟨x, hx⟩ : ∃ x, xss[k]? = some x := ⟨xss[k]'(by have := HN.out; omega), List.getElem?_eq_getElem _⟩
      obtain ⟨s, hs1, hs2⟩ := S3.out k x hx
      obtain ⟨t, ht1, ht2⟩ := T3.out k x hx
      obtain ⟨hsl, hse⟩ := List.getElem?_eq_some_iff.1 hs1
      obtain ⟨htl, hte⟩ := List.getElem?_eq_some_iff.1 ht1
      obtain ⟨_, _, he, hr⟩ := rd_s1 (S2.out wr HX.out)
      simp only [Value.slice.injEq] at he
      obtain ⟨rfl, hj, rfl⟩ := he
      clear hj
      obtain ⟨g, off, rfl, hg, hc⟩ := hr k hsl
      rw [hse] at hc
      obtain ⟨_, _, he, hr2⟩ := rd_s1 (T2.out wr HX.out)
      simp only [Value.slice.injEq] at he
      obtain ⟨rfl, hj, rfl⟩ := he
      clear hj
      obtain ⟨g2, off2, rfl, hg2, hc2⟩ := hr2 k htl
      rw [hte] at hc2
      have ik : (k : Int) < n := by omega
      have ik0 : (0 : Int) ≤ k := by omega
      have hxl := HIN.out x (by obtain ⟨h, e⟩ := List.getElem?_eq_some_iff.1 hx; rw [← e]; exact List.getElem_mem h)
      have HE := Lib.hid (equal20 B w0 F x x (sv s) (sv t) wr (hs2 wr HX.out) (ht2 wr HX.out) HX.out hxl hxl)
      rw [show decide (x = x) = true by simp] at HE
      clear hx hs1 hs2 ht1 ht2 hsl hse htl hte hr hr2 hxl
      go_wp2_with (go_at_fn 20; refine HE.out.mono ?_; rintro e w2 ⟨rfl, hO2⟩)
      exact ⟨⟨k + 1, by omega, by go_num, Lib.hid hO2⟩, by simp [intOf]; omega⟩
    · obtain rfl : k = n := by omega
      go_wp2
      go_ret
      exact ⟨rfl, HX.out⟩

end Go.Proofs.Ytojcojoleodjmaa
