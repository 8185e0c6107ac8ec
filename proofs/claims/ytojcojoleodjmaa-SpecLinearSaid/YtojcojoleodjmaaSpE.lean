/-
  spec: contracts of late and its closure, slices.IndexFunc and ContainsFunc over ints. Condition: the order's calls are there.
-/
import Derived.Test.YtojcojoleodjmaaSpC
import Derived.StillTailTactics
namespace Go.Proofs.Ytojcojoleodjmaa
open Go.RowKit Go.Shelf Go.Sh
attribute [local go_sem ↓] Go.wp_at_zero Go.wp_at_succ

/-- What late's closure reads. -/
def LateC (w : World) (Bs Bn S : Nat) (lv : Value) (n : Int) : Prop :=
  w.cell? ⟨Bs, 0, none⟩ = some (.pointer (some ⟨S, 0, none⟩)) ∧ w.cell? ⟨Bn, 0, none⟩ = some (.int .i64 n) ∧ w.cell? ⟨S, 0, none⟩ = some lv
theorem LateC.later {w w' : World} {Bs Bn S : Nat} {lv : Value} {n : Int} (h : LateC w Bs Bn S lv n) (hb : Below w.heap.size w w') : LateC w' Bs Bn S lv n :=
  ⟨(hb.cell (p := ⟨Bs, 0, none⟩) (World.block_lt_of_cell? _ _ h.1)).trans h.1, (hb.cell (p := ⟨Bn, 0, none⟩) (World.block_lt_of_cell? _ _ h.2.1)).trans h.2.1, (hb.cell (p := ⟨S, 0, none⟩) (World.block_lt_of_cell? _ _ h.2.2)).trans h.2.2⟩

set_option maxRecDepth 100000 in
set_option maxHeartbeats 2000000 in
theorem late78 (B : Nat) (w0 : World) (F : List (Nat × Obj)) (xs : List C6) (lv : Value) (Bs Bn S n k : Nat) (x y : C6) (w : World) (hR : Rd w CC lv xs) (hO : Own B w0 w F) (hc : LateC w Bs Bn S lv n) (hnx : xs[n]? = some x) (hky : xs[k]? = some y) (hcap : ∀ ao n c, lv = .slice ao n c → n ≤ c) :
    Calls Try.prog 78 #[.int .i64 k, .pointer (some ⟨Bs, 0, none⟩), .pointer (some ⟨Bn, 0, none⟩)] w (BoolJ B w0 w F (endedB x y)) := by
  obtain ⟨hn, hxe⟩ := List.getElem?_eq_some_iff.1 hnx
  obtain ⟨hk, hye⟩ := List.getElem?_eq_some_iff.1 hky
  obtain ⟨ao, cap, rfl, hr⟩ := rd_cc hR
  have hcp := hcap _ _ _ rfl
  obtain ⟨g, off, rfl, hg, a0, a1, a2, a3, a4, a5⟩ := hr n hn
  obtain ⟨g', off', he, _, b0, b1, b2, b3, b4, b5⟩ := hr k hk
  simp only [Option.some.injEq, Addr.mk.injEq, and_true] at he
  obtain ⟨rfl, rfl⟩ := he
  rw [hxe] at a0 a1 a2 a3 a4 a5
  rw [hye] at b0 b1 b2 b3 b4 b5
  obtain ⟨m, hm⟩ : ∃ m, xs.length = m := ⟨_, rfl⟩
  rw [hm] at hc hcp
  have hn2 : n < m := by omega
  have hk2 : k < m := by omega
  obtain ⟨c0, c1, c2⟩ := hc
  have sl := World.block_lt_of_cell? _ _ c0
  have nl := World.block_lt_of_cell? _ _ c1
  have Sl0 := World.block_lt_of_cell? _ _ c2
  have gl : g < w.heap.size := hg
  have i0 : (0 : Int) ≤ n := by omega
  have i1 : (n : Int) < m := by omega
  have i2 : (0 : Int) ≤ k := by omega
  have i3 : (k : Int) < m := by omega
  have HO := Lib.hid hO
  have HB := Lib.hid (Below.refl w.heap.size w)
  clear hO hcap hR hr hxe hye hm hg hn hk hnx hky
  go_enter Try.func78, Try.ntmps78
  go_upto_region 1 with fail
  go_still_tail 14, (by kernel_rfl)
  change wpList _ _ _ _ _ w.drew
  have HO2 := Lib.hid HO.out.drew
  have HB2 := Lib.hid HB.out.drew
  clear HO HB
  go_wp2_with (go_at_call 64; refine (ended_v B w0 F x y _ HO2.out).mono ?_; rintro e w2 ⟨rfl, hO2, hb2⟩)
  go_ret
  exact ⟨rfl, hO2, HB2.out.trans (hb2.mono HB2.out.size)⟩

/-- Did the call end ahead of one of these? -/
def lateB (xs : List C6) (a : C6) (ks : List Int) : Bool := ks.any fun k => endedB a (xs.getD k.toNat default)

set_option maxRecDepth 100000 in
set_option maxHeartbeats 2000000 in
theorem idxf81 (B : Nat) (w0 : World) (F : List (Nat × Obj)) (xs : List C6) (lv : Value) (ks : List Int) (v : Value) (Bs Bn S n : Nat) (x : C6) (w : World) (hR : Rd w CC lv xs) (hK : Rd w I v ks) (hO : Own B w0 w F) (hc : LateC w Bs Bn S lv n) (hnx : xs[n]? = some x) (hks : ∀ k ∈ ks, 0 ≤ k ∧ k < xs.length) (hcap : ∀ ao n c, lv = .slice ao n c → n ≤ c) (hkx : ks.length ≤ 9223372036854775807) :
    Calls Try.prog 81 #[v, .func (.func 78) #[] #[.pointer (some ⟨Bs, 0, none⟩), .pointer (some ⟨Bn, 0, none⟩)]] w (IfPost B w0 w F (lateB xs x ks)) := by
  have eg : ∀ args w, (callFunc 78 args).run Try.prog w = .ok (.enter 78 args) w := enters_of Try.func78 (by kernel_rfl) rfl
  have HR := Lib.hid hR
  have HK := Lib.hid hK
  have HW := Lib.hid hc
  have HKS := Lib.hid hks
  have HB0 := Lib.hid (Below.refl w.heap.size w)
  have hcell : ∀ i (hi : i < ks.length), ∃ g off cap, v = .slice (some ⟨g, off, none⟩) ks.length cap ∧ g < w.heap.size ∧ w.cell? ⟨g, off + i, none⟩ = some (.int .i64 ks[i]) := fun i hi => by
    rcases hK with ⟨rfl, _⟩ | ⟨g, off, cap, rfl, h⟩
    · simp at hi
    · have := h i (.int .i64 ks[i]) (by rw [flatI]; simp [hi])
      exact ⟨g, off, cap, rfl, World.block_lt_of_cell? _ _ this, this⟩
  obtain ⟨ao, cap, rfl⟩ : ∃ ao cap, v = .slice ao ks.length cap := by
    rcases hK with ⟨rfl, ao, cap, rfl⟩ | ⟨g, off, cap, rfl, _⟩ <;> exact ⟨_, _, rfl⟩
  have HC := Lib.hid hcell
  clear hR hK hc hcell hks
  go_enter Try.func81, Try.ntmps81
  go_wp2
  go_loopw [5, 8] (fun _ i wr => ∃ k : Nat, k ≤ ks.length ∧ i = .int .i64 k ∧ Hid (lateB xs x (ks.take k) = false) ∧ Own B w0 wr F ∧ Hid (Below w.heap.size w wr)) (fun _ i _ => ks.length - (intOf i).toNat)
  case atStart => exact ⟨0, Nat.zero_le _, rfl, Lib.hid (by simp [lateB]), hO, HB0⟩
  case round =>
    obtain ⟨k, hk, rfl, HN, hO1, HB⟩ := hrel
    by_cases hlt : k < ks.length
    · obtain ⟨g, off, cap', he, hg, e0⟩ := HC.out k hlt
      simp only [Value.slice.injEq] at he
      obtain ⟨rfl, _, rfl⟩ := he
      have c0 := (HB.out.cell (p := ⟨g, off + k, none⟩) hg).trans e0
      have HWr := Lib.hid (HW.out.later HB.out)
      have HRr := Lib.hid (HR.out.later HB.out)
      have hki : (k : Int) < ks.length := by omega
      obtain ⟨q, hq, hqx⟩ : ∃ q : Nat, ks[k] = (q : Int) ∧ q < xs.length := by
        have := HKS.out ks[k] (List.getElem_mem hlt)
        exact ⟨ks[k].toNat, by omega, by omega⟩
      rw [hq] at c0
      obtain ⟨y, hye⟩ : ∃ y, xs[q] = y := ⟨_, rfl⟩
      have HT := Lib.hid (show lateB xs x (ks.take (k + 1)) = endedB x y by
        have h1 := HN.out
        unfold lateB at h1 ⊢
        rw [List.take_succ_eq_append_getElem hlt, List.any_append, h1, hq]
        simp [hye, hqx])
      have HIN := Lib.hid (show lateB xs x ks = (endedB x y || lateB xs x ks) by
        cases hb : endedB x y with
        | false => rfl
        | true => exact List.any_eq_true.2 ⟨ks[k], List.getElem_mem hlt, by rw [hq]; simpa [hye, hqx] using hb⟩)
      have HQ := Lib.hid (show xs[q]? = some y by rw [List.getElem?_eq_getElem hqx, hye])
      clear e0 hO hq hqx hye
      cases ho : endedB x y with
      | true =>
        have HOV := Lib.hid ho
        have HR := Lib.hid (show lateB xs x ks = true by rw [HIN.out, ho]; rfl)
        have hk0 : (0 : Int) ≤ k := by omega
        clear ho
        go_wp2_with (go_at_fn 78; refine (late78 B w0 F xs lv Bs Bn S n q x y _ HRr.out hO1 HWr.out hnx HQ.out hcap).mono ?_; rintro e w2 ⟨rfl, hO2, hb2⟩; rw [HOV.out])
        go_ret
        exact ⟨k, rfl, by rw [HR.out]; simp, hO2, HB.out.trans (hb2.mono HB.out.size)⟩
      | false =>
        have HOV := Lib.hid ho
        clear ho
        go_wp2_with (go_at_fn 78; refine (late78 B w0 F xs lv Bs Bn S n q x y _ HRr.out hO1 HWr.out hnx HQ.out hcap).mono ?_; rintro e w2 ⟨rfl, hO2, hb2⟩; rw [HOV.out])
        exact ⟨⟨k + 1, by omega, by go_num, Lib.hid (by rw [HT.out]; exact HOV.out), hO2, Lib.hid (HB.out.trans (hb2.mono HB.out.size))⟩, by simp [intOf]; omega⟩
    · obtain rfl : k = ks.length := by omega
      have HR := Lib.hid (show lateB xs x ks = false by have := HN.out; rwa [List.take_length] at this)
      go_wp2
      go_ret
      exact ⟨-1, rfl, by rw [HR.out]; rfl, hO1, HB.out⟩

theorem contf77 (B : Nat) (w0 : World) (F : List (Nat × Obj)) (xs : List C6) (lv : Value) (ks : List Int) (v : Value) (Bs Bn S n : Nat) (x : C6) (w : World) (hR : Rd w CC lv xs) (hK : Rd w I v ks) (hO : Own B w0 w F) (hc : LateC w Bs Bn S lv n) (hnx : xs[n]? = some x) (hks : ∀ k ∈ ks, 0 ≤ k ∧ k < xs.length) (hcap : ∀ ao n c, lv = .slice ao n c → n ≤ c) (hkx : ks.length ≤ 9223372036854775807) :
    Calls Try.prog 77 #[v, .func (.func 78) #[] #[.pointer (some ⟨Bs, 0, none⟩), .pointer (some ⟨Bn, 0, none⟩)]] w (BoolJ B w0 w F (lateB xs x ks)) := by
  have HR := Lib.hid (idxf81 B w0 F xs lv ks v Bs Bn S n x w hR hK hO hc hnx hks hcap hkx)
  obtain ⟨b, hb⟩ : ∃ b, lateB xs x ks = b := ⟨_, rfl⟩
  rw [hb] at HR ⊢
  clear hR hK hO hc hks hb hcap
  go_enter Try.func77, Try.ntmps77
  go_wp2_with fail
  refine HR.out.mono ?_
  rintro e w2 ⟨r, rfl, hr, hO2, hb2⟩
  have HRR := Lib.hid hr
  clear hr
  go_wp2
  go_ret
  exact ⟨by rw [← HRR.out]; rfl, hO2, hb2⟩

set_option maxRecDepth 100000 in
set_option maxHeartbeats 2000000 in
theorem late68 (B : Nat) (w0 : World) (F : List (Nat × Obj)) (xs : List C6) (lv : Value) (ks : List Int) (v : Value) (S n : Nat) (x : C6) (w : World) (hR : Rd w CC lv xs) (hK : Rd w I v ks) (hO : Own B w0 w F) (h0 : w.cell? ⟨S, 0, none⟩ = some lv) (h2 : w.cell? ⟨S, 2, none⟩ = some v) (hnx : xs[n]? = some x) (hks : ∀ k ∈ ks, 0 ≤ k ∧ k < xs.length) (hcap : ∀ ao n c, lv = .slice ao n c → n ≤ c) (hkx : ks.length ≤ 9223372036854775807) :
    Calls Try.prog 68 #[.pointer (some ⟨S, 0, none⟩), .int .i64 n] w (BoolD B w0 F (lateB xs x ks)) := by
  have sl := World.block_lt_of_cell? _ _ h0
  have sl1 : S < w.heap.size + 1 := by have : S < w.heap.size := sl; omega
  have sl0 : S < w.heap.size := sl
  have hb := ((Below.refl _ w).alloc (Nat.le_refl _) (Obj.cells #[.pointer (some ⟨S, 0, none⟩)] 98 (0, 0))).alloc (by simp) (Obj.cells #[.int .i64 n] 3 (0, 0))
  have hO1 := (hO.allocAt (Obj.cells #[.pointer (some ⟨S, 0, none⟩)] 98 (0, 0)) (n := w.heap.size) rfl).allocAt (Obj.cells #[.int .i64 n] 3 (0, 0)) (n := w.heap.size + 1) (by simp)
  have hC : LateC _ w.heap.size (w.heap.size + 1) S lv n := ⟨cell_of_get hO1.tail.head 0, cell_of_get hO1.head 0, (hb.cell (p := ⟨S, 0, none⟩) sl).trans h0⟩
  have HCALL := Lib.hid (contf77 B w0 F xs lv ks v w.heap.size (w.heap.size + 1) S n x _ (hR.later hb) (hK.later hb) hO1.tail.tail hC hnx hks hcap hkx)
  obtain ⟨b, hbb⟩ : ∃ b, lateB xs x ks = b := ⟨_, rfl⟩
  rw [hbb] at HCALL ⊢
  clear hR hK hO hb hO1 hC hks hcap hbb
  go_enter Try.func68, Try.ntmps68
  go_wp2_with fail
  refine HCALL.out.mono ?_
  rintro e w2 ⟨rfl, hO2, hb2⟩
  go_wp2
  go_ret
  exact ⟨rfl, hO2⟩

end Go.Proofs.Ytojcojoleodjmaa
