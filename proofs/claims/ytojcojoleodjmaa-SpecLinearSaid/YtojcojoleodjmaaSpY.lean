/-
  spec: contract of the document's may. Condition: the order's calls are there.
-/
import Derived.Test.YtojcojoleodjmaaSpU
namespace Go.Proofs.Ytojcojoleodjmaa
open Go.RowKit Go.Shelf Go.Sh
attribute [local go_sem ↓] Go.wp_at_zero Go.wp_at_succ

/-- The document's state behind an order, whatever each call was told. -/
def foldD (kind : Int) (xs : List C6) : List Int → Dst → Dst
  | [], s => s
  | k :: ks, s => foldD kind xs ks (doesD kind s (xs.getD k.toNat default)).1
theorem foldD_push (kind : Int) (xs : List C6) (k : Int) : ∀ (ks : List Int) (s : Dst), foldD kind xs (ks ++ [k]) s = (doesD kind (foldD kind xs ks s) (xs.getD k.toNat default)).1
  | [], _ => rfl
  | _ :: ks, _ => foldD_push kind xs k ks _
def mayD (kind : Int) (xs : List C6) (ks : List Int) (n : Nat) : Bool :=
  if ks.contains (n : Int) = true then false else if lateB xs (xs.getD n default) ks = true then false else (doesD kind (foldD kind xs ks d0) (xs.getD n default)).2

set_option maxRecDepth 100000 in
set_option maxHeartbeats 4000000 in
theorem may74 (B : Nat) (w0 : World) (F : List (Nat × Obj)) (kind : Int) (ao : Option Addr) (nn cap : Nat) (xs : List C6) (ks : List Int) (vk : Value) (n : Nat) (w : World) (hR : RdA B w0 F (.slice ao nn cap) xs) (hK : ∀ w', Sh.Own B w0 w' F → Rd w' I vk ks) (hO : Sh.Own B w0 w F)
    (hks : ∀ k ∈ ks, 0 ≤ k ∧ k < (xs.length : Int)) (hn : n < xs.length) (hx : xs.length ≤ 900) (hkl : ks.length ≤ 1000) :
    Calls Try.prog 74 #[.int .i64 kind, .slice ao nn cap, vk, .int .i64 n] w (BoolD B w0 F (mayD kind xs ks n)) := by
  obtain ⟨ao2, cap2, rfl⟩ : ∃ a c, vk = .slice a ks.length c := by
    rcases hK w hO with ⟨rfl, a, c, rfl⟩ | ⟨g, off, c, rfl, _⟩ <;> exact ⟨_, _, rfl⟩
  obtain ⟨x, hxe⟩ : ∃ x, xs[n]? = some x := ⟨xs[n], List.getElem?_eq_getElem _⟩
  have hxd : xs.getD n default = x := by simp [hxe]
  obtain ⟨_, _, hlv, _⟩ := rd_cc (hR w hO)
  simp only [Value.slice.injEq] at hlv
  obtain ⟨rfl, hnx, rfl⟩ := hlv
  have HNX := Lib.hid hnx.symm
  have HR := Lib.hid hR
  have HK := Lib.hid hK
  have HO := Lib.hid hO
  have HKS := Lib.hid hks
  have HXX := Lib.hid hxe
  obtain ⟨res, hres⟩ : ∃ r, mayD kind xs ks n = r := ⟨_, rfl⟩
  have HRES := Lib.hid (show (if ks.contains (n : Int) = true then false else if lateB xs x ks = true then false else (doesD kind (foldD kind xs ks d0) x).2) = res by rw [← hres, ← hxd]; rfl)
  rw [hres]
  have hn2 : n < nn := by omega
  have hnn : nn ≤ 900 := by omega
  have in0 : (0 : Int) ≤ n := by omega
  have in1 : (n : Int) < nn := by omega
  clear hR hK hO hks hn hx hxe hxd hnx hres
  go_enter Try.func74, Try.ntmps74
  go_wp2
  go_loopw [9] (fun i wr => ∃ k : Nat, k ≤ ks.length ∧ i = .int .i64 k ∧ Hid ((ks.take k).contains (n : Int) = false ∧ lateB xs x (ks.take k) = false) ∧ Hid (Sh.Own B w0 wr F)) (fun i _ => ks.length - (intOf i).toNat)
  case atStart => exact ⟨0, Nat.zero_le _, rfl, Lib.hid ⟨by simp, by simp [lateB]⟩, HO⟩
  case round =>
    clear HO
    obtain ⟨k, hk, rfl, HN, HX⟩ := hrel
    by_cases hlt : k < ks.length
    · obtain ⟨z, hz, hzx⟩ : ∃ z : Nat, ks[k] = (z : Int) ∧ z < xs.length := by
        have := HKS.out ks[k] (List.getElem_mem hlt)
        exact ⟨ks[k].toNat, by omega, by omega⟩
      obtain ⟨a3, c3, he3, r3⟩ := rd_ints (HK.out wr HX.out)
      simp only [Value.slice.injEq, true_and] at he3
      obtain ⟨rfl, rfl⟩ := he3
      obtain ⟨gk, ok, rfl, hgk, kc⟩ := r3 k hlt
      rw [hz] at kc
      obtain ⟨y, hy⟩ : ∃ y, xs[z]? = some y := ⟨xs[z], List.getElem?_eq_getElem _⟩
      obtain ⟨gl, ol, cl, he, hAt⟩ := rda_at HR.out HX.out HNX.out.symm HXX.out
      simp only [Value.slice.injEq, true_and] at he
      obtain ⟨rfl, rfl⟩ := he
      obtain ⟨gl2, ol2, cl2, he2, hAt2⟩ := rda_at HR.out HX.out HNX.out.symm hy
      simp only [Value.slice.injEq, true_and, Option.some.injEq, Addr.mk.injEq, and_true] at he2
      obtain ⟨⟨rfl, rfl⟩, rfl⟩ := he2
      obtain ⟨hgl, e0, e1, e2, e3, e4, e5⟩ := hAt _ HX.out
      obtain ⟨_, f0, f1, f2, f3, f4, f5⟩ := hAt2 _ HX.out
      have ik : (k : Int) < ks.length := by omega
      have ik0 : (0 : Int) ≤ k := by omega
      have iz : (z : Int) < nn := by rw [← HNX.out]; omega
      have iz0 : (0 : Int) ≤ z := by omega
      have hin : (z : Int) ∈ ks := by rw [← hz]; exact List.getElem_mem hlt
      have hte : ks.take (k + 1) = ks.take k ++ [(z : Int)] := by rw [List.take_succ_eq_append_getElem hlt, hz]
      have hyd : xs.getD z default = y := by simp [hy]
      by_cases hq : z = n
      · subst hq
        have HRR := Lib.hid (show res = false by rw [← HRES.out, if_pos (List.contains_iff_mem.2 hin)])
        have b1 : ((z : Int) == z) = true := by simp
        clear hz hzx hy hAt hAt2 r3 hin hte hyd
        go_wp2
        go_quiet (fail)
        go_wp2
        go_ret
        exact ⟨by rw [HRR.out]; rfl, HX.out.drewN nq⟩
      · have b1 : ((z : Int) == n) = false := by simp; omega
        cases hb : endedB x y with
        | true =>
          have HB := Lib.hid hb
          have HRR := Lib.hid (show res = false by
            rw [← HRES.out]
            split
            · rfl
            · rw [if_pos (show lateB xs x ks = true from List.any_eq_true.2 ⟨(z : Int), hin, by rw [Int.toNat_natCast, hyd]; exact hb⟩)])
          have HX6 := Lib.hid (show At6 wr gl (ol + n * 6) x from ⟨e0, e1, e2, e3, e4, e5⟩)
          have HY6 := Lib.hid (show At6 wr gl (ol + z * 6) y from ⟨f0, f1, f2, f3, f4, f5⟩)
          clear hz hzx hy hAt hAt2 r3 hin hte hyd hb hq
          go_wp2
          go_region_held3 (fun w' => w'.cell? ⟨gl, ol + n * 6, none⟩ = some (.int .i64 x.who) ∧ w'.cell? ⟨gl, ol + n * 6 + 1, none⟩ = some (.int .i64 x.op) ∧ w'.cell? ⟨gl, ol + n * 6 + 2, none⟩ = some (.int .i64 x.v.t) ∧ w'.cell? ⟨gl, ol + n * 6 + 3, none⟩ = some (.int .i64 x.v.n) ∧ w'.cell? ⟨gl, ol + n * 6 + 4, none⟩ = some (.int .i64 x.fro) ∧ w'.cell? ⟨gl, ol + n * 6 + 5, none⟩ = some (.int .i64 x.til) ∧ w'.cell? ⟨gl, ol + z * 6, none⟩ = some (.int .i64 y.who) ∧ w'.cell? ⟨gl, ol + z * 6 + 1, none⟩ = some (.int .i64 y.op) ∧ w'.cell? ⟨gl, ol + z * 6 + 2, none⟩ = some (.int .i64 y.v.t) ∧ w'.cell? ⟨gl, ol + z * 6 + 3, none⟩ = some (.int .i64 y.v.n) ∧ w'.cell? ⟨gl, ol + z * 6 + 4, none⟩ = some (.int .i64 y.fro) ∧ w'.cell? ⟨gl, ol + z * 6 + 5, none⟩ = some (.int .i64 y.til) ∧ w'.cell? ⟨gk, ok + k, none⟩ = some (.int .i64 z))
            (first | exact ⟨r0, r1, r2, r3, r4, r5, t0, t1, t2, t3, t4, t5, kz⟩ | (go_keep; done))
            (first
              | (go_at_call 66; (with_reducible refine (before_v B w0 _ x y _ HX.out.drew).mono ?_); rintro e w3 ⟨rfl, hO3, hB3⟩; rw [HB.out]; have HBX := Lib.hid ((Below.refl wr.heap.size wr).drew.trans hB3); obtain ⟨r0, r1, r2, r3, r4, r5⟩ := HX6.out.later HBX.out; obtain ⟨t0, t1, t2, t3, t4, t5⟩ := HY6.out.later HBX.out; have kz := (HBX.out.cell (p := ⟨gk, ok + k, none⟩) hgk).trans kc; have HO3 := Lib.hid hO3; clear hO3 hB3)
              | fail "no arm")
          all_goals
            go_wp2
            go_ret
            exact ⟨by rw [HRR.out]; rfl, HO3.out⟩
        | false =>
          have HB := Lib.hid hb
          have HN2 := Lib.hid (show (ks.take (k + 1)).contains (n : Int) = false ∧ lateB xs x (ks.take (k + 1)) = false by
            obtain ⟨h1, h2⟩ := HN.out
            rw [hte]
            refine ⟨?_, ?_⟩
            · rw [Bool.eq_false_iff, ne_eq, List.contains_iff_mem, List.mem_append]
              rintro (h | h)
              · rw [List.contains_iff_mem.2 h] at h1; cases h1
              · simp at h; omega
            · unfold lateB at h2 ⊢
              rw [List.any_append, h2]
              simp only [List.any_cons, List.any_nil, Int.toNat_natCast, hyd, hb]
              rfl)
          have HX6 := Lib.hid (show At6 wr gl (ol + n * 6) x from ⟨e0, e1, e2, e3, e4, e5⟩)
          have HY6 := Lib.hid (show At6 wr gl (ol + z * 6) y from ⟨f0, f1, f2, f3, f4, f5⟩)
          clear hz hzx hy hAt hAt2 r3 hin hte hyd hb hq
          go_wp2
          go_region_held3 (fun w' => w'.cell? ⟨gl, ol + n * 6, none⟩ = some (.int .i64 x.who) ∧ w'.cell? ⟨gl, ol + n * 6 + 1, none⟩ = some (.int .i64 x.op) ∧ w'.cell? ⟨gl, ol + n * 6 + 2, none⟩ = some (.int .i64 x.v.t) ∧ w'.cell? ⟨gl, ol + n * 6 + 3, none⟩ = some (.int .i64 x.v.n) ∧ w'.cell? ⟨gl, ol + n * 6 + 4, none⟩ = some (.int .i64 x.fro) ∧ w'.cell? ⟨gl, ol + n * 6 + 5, none⟩ = some (.int .i64 x.til) ∧ w'.cell? ⟨gl, ol + z * 6, none⟩ = some (.int .i64 y.who) ∧ w'.cell? ⟨gl, ol + z * 6 + 1, none⟩ = some (.int .i64 y.op) ∧ w'.cell? ⟨gl, ol + z * 6 + 2, none⟩ = some (.int .i64 y.v.t) ∧ w'.cell? ⟨gl, ol + z * 6 + 3, none⟩ = some (.int .i64 y.v.n) ∧ w'.cell? ⟨gl, ol + z * 6 + 4, none⟩ = some (.int .i64 y.fro) ∧ w'.cell? ⟨gl, ol + z * 6 + 5, none⟩ = some (.int .i64 y.til) ∧ w'.cell? ⟨gk, ok + k, none⟩ = some (.int .i64 z))
            (first | exact ⟨r0, r1, r2, r3, r4, r5, t0, t1, t2, t3, t4, t5, kz⟩ | (go_keep; done))
            (first
              | (go_at_call 66; (with_reducible refine (before_v B w0 _ x y _ HX.out.drew).mono ?_); rintro e w3 ⟨rfl, hO3, hB3⟩; rw [HB.out]; have HBX := Lib.hid ((Below.refl wr.heap.size wr).drew.trans hB3); obtain ⟨r0, r1, r2, r3, r4, r5⟩ := HX6.out.later HBX.out; obtain ⟨t0, t1, t2, t3, t4, t5⟩ := HY6.out.later HBX.out; have kz := (HBX.out.cell (p := ⟨gk, ok + k, none⟩) hgk).trans kc; have HO3 := Lib.hid hO3; clear hO3 hB3)
              | fail "no arm")
          all_goals
            go_wp2
            exact ⟨⟨k + 1, by omega, by go_num, HN2, HO3⟩, by simp [intOf]; omega⟩
    · obtain rfl : k = ks.length := by omega
      have HRR := Lib.hid (show (doesD kind (foldD kind xs ks d0) x).2 = res by
        have h := HN.out
        rw [List.take_length] at h
        rw [← HRES.out, h.1, h.2]
        rfl)
      have HX2 := Lib.hid (HX.out.allocAt (obD (.slice none 0 0) ⟨4, 0⟩) (n := wr.heap.size) rfl)
      clear HN HX HRES
      go_wp2
      go_loopw [11] (fun i wx => ∃ (k : Nat) (s : Dst) (vl : Value) (Ll : List (Nat × Obj)), k ≤ ks.length ∧ i = .int .i64 k ∧ Hid (foldD kind xs (ks.take k) d0 = s) ∧ Hid (Sl 77 2 C2 vl s.l Ll) ∧ Hid (Sh.Own B w0 wx ((wr.heap.size, obD vl s.v) :: (Ll ++ F))) ∧ Hid (s.l.length ≤ k)) (fun i _ => ks.length - (intOf i).toNat)
      case atStart => exact ⟨0, d0, _, [], Nat.zero_le _, rfl, Lib.hid rfl, Lib.hid Sl.nil, HX2, Lib.hid (by simp [d0])⟩
      case round =>
        clear HX2
        obtain ⟨k, s, vl, Ll, hk, rfl, HS, HSl, HX3, HLe⟩ := hrel
        by_cases hlt : k < ks.length
        · obtain ⟨z, hz, hzx⟩ : ∃ z : Nat, ks[k] = (z : Int) ∧ z < xs.length := by
            have := HKS.out ks[k] (List.getElem_mem hlt)
            exact ⟨ks[k].toNat, by omega, by omega⟩
          obtain ⟨a3, c3, he3, r3⟩ := rd_ints (HK.out _ HX3.out.tail.right)
          simp only [Value.slice.injEq, true_and] at he3
          obtain ⟨rfl, rfl⟩ := he3
          obtain ⟨gk, ok, rfl, hgk, kc⟩ := r3 k hlt
          rw [hz] at kc
          obtain ⟨y, hy⟩ : ∃ y, xs[z]? = some y := ⟨xs[z], List.getElem?_eq_getElem _⟩
          obtain ⟨gl, ol, cl, he, hAt⟩ := rda_at HR.out HX3.out.tail.right HNX.out.symm hy
          simp only [Value.slice.injEq, true_and] at he
          obtain ⟨rfl, rfl⟩ := he
          obtain ⟨hgl, f0, f1, f2, f3, f4, f5⟩ := hAt _ HX3.out.tail.right
          have ik : (k : Int) < ks.length := by omega
          have ik0 : (0 : Int) ≤ k := by omega
          have iz : (z : Int) < nn := by rw [← HNX.out]; omega
          have iz0 : (0 : Int) ≤ z := by omega
          have hdl := doesD_len kind s y
          have HS2 := Lib.hid (show foldD kind xs (ks.take (k + 1)) d0 = (doesD kind s y).1 by
            rw [List.take_succ_eq_append_getElem hlt, hz, foldD_push, HS.out, Int.toNat_natCast, show xs.getD z default = y by simp [hy]])
          have HLe2 := Lib.hid (show (doesD kind s y).1.l.length ≤ k + 1 by have := HLe.out; omega)
          have HDOES := Lib.hid (does71 B w0 _ F kind s vl Ll y _ HSl.out (by have := HLe.out; omega) HX3.out)
          clear hz hzx hy hAt r3 hdl
          go_wp2_with (go_at_call 71; refine HDOES.out.mono ?_; rintro e w5 ⟨rfl, vl2, Ll2, hS5, hO5⟩; have HS5 := Lib.hid hS5; have HO5 := Lib.hid hO5; clear hS5 hO5)
          exact ⟨⟨k + 1, _, vl2, Ll2, by omega, by go_num, HS2, HS5, HO5, HLe2⟩, by simp [intOf]; omega⟩
        · obtain rfl : k = ks.length := by omega
          have HS2 := Lib.hid (show foldD kind xs ks d0 = s by have h := HS.out; rwa [List.take_length] at h)
          rw [HS2.out] at HRR
          obtain ⟨gl, ol, cl, he, hAt⟩ := rda_at HR.out HX3.out.tail.right HNX.out.symm HXX.out
          simp only [Value.slice.injEq, true_and] at he
          obtain ⟨rfl, rfl⟩ := he
          obtain ⟨hgl, f0, f1, f2, f3, f4, f5⟩ := hAt _ HX3.out.tail.right
          have HDOES := Lib.hid (does71 B w0 _ F kind s vl Ll x _ HSl.out (by have := HLe.out; omega) HX3.out)
          obtain ⟨r, hr⟩ : ∃ r, doesD kind s x = r := ⟨_, rfl⟩
          rw [hr] at HDOES HRR
          obtain ⟨s', b⟩ := r
          clear hAt hr
          go_wp2_with (go_at_call 71; refine HDOES.out.mono ?_; rintro e w5 ⟨rfl, vl2, Ll2, hS5, hO5⟩)
          go_ret
          exact ⟨by rw [← HRR.out]; rfl, hO5.tail.right⟩

end Go.Proofs.Ytojcojoleodjmaa
