/-
  spec: contract of the document's does, a put into a queue; does, whole. Condition: few values.
-/
import Derived.Test.YtojcojoleodjmaaSpO
import Derived.Deep.RegionLaw
namespace Go.Proofs.Ytojcojoleodjmaa
open Go.RowKit Go.Shelf Go.Sh
attribute [local go_sem ↓] Go.wp_at_zero Go.wp_at_succ

theorem does_x {B : Nat} {w0 w : World} {b : Nat × Obj} {L M : List (Nat × Obj)} (h : Sh.Own B w0 w (b :: (L ++ M))) : Sh.Own B w0 w (L ++ (b :: M)) := h.shuf [[b], L, M] [1, 0, 2] rfl rfl

theorem does_y {B : Nat} {w0 w : World} {b c d : Nat × Obj} {L2 Ll F : List (Nat × Obj)} (h : Sh.Own B w0 w (L2 ++ (b :: c :: d :: (Ll ++ F)))) : Sh.Own B w0 w (d :: (L2 ++ F)) :=
  (show Sh.Own B w0 w (Ll ++ (d :: (L2 ++ F))) from (h.shuf [L2, [b, c], [d], Ll, F] [1, 3, 2, 0, 4] rfl rfl).tail.tail).right

set_option maxRecDepth 100000 in
set_option maxHeartbeats 4000000 in
theorem does_put (B : Nat) (w0 : World) (D : Nat) (F : List (Nat × Obj)) (kind : Int) (l : List V2) (v : V2) (vl : Value) (Ll : List (Nat × Obj)) (c : C6) (w : World) (hk : kind ≠ 2) (hS : Sl 77 2 C2 vl l Ll) (hl : l.length ≤ 100000) (hO : Sh.Own B w0 w ((D, obD vl v) :: (Ll ++ F))) (h1 : c.op = 1) :
    Calls Try.prog 71 #[.pointer (some ⟨D, 0, none⟩), .int .i64 kind, agg6 c] w (DoesPost6 B w0 D F (doesD kind ⟨l, v⟩ c)) := by
  obtain ⟨i0, hi, hz0, hz1, hz2⟩ := info_parts Try.info77
  have HR := Lib.hid (show doesD kind ⟨l, v⟩ c = (⟨l ++ [c.v], v⟩, true) by unfold doesD; rw [if_neg hk, if_pos h1])
  have hb : (c.op == 1) = true := by simp [h1]
  have hb2 : (kind == 2) = false := by simp [hk]
  obtain ⟨ao, cap, rfl, hcap, hcm⟩ := hS.form
  obtain ⟨n, hn⟩ : ∃ n, l.length = n := ⟨_, rfl⟩
  rw [hn] at hS hO hl
  have HN := Lib.hid hn
  have HS := Lib.hid hS
  have HO := Lib.hid (hO.allocAt (ob6 c) (n := w.heap.size) rfl)
  clear hO hS h1 hk hn hcap hcm
  go_enter Try.func71, Try.ntmps71
  go_upto_region 7 with fail
  generalize w.alloc (Obj.cells #[.int .i64 c.who, .int .i64 c.op, .int .i64 c.v.t, .int .i64 c.v.n, .int .i64 c.fro, .int .i64 c.til] 80) = W at HO ⊢
  have HA := Lib.hid (show Sh.Own B w0 W.drew ([] ++ ((w.heap.size, ob6 c) :: (D, obD (.slice ao n cap) v) :: (Ll ++ F))) from HO.out.drew)
  have HB := Lib.hid (show Sh.Own B w0 (W.alloc (Obj.cells #[.int .i64 c.v.t, .int .i64 c.v.n] 77)).drew ([] ++ ((W.heap.size, Obj.cells #[.int .i64 c.v.t, .int .i64 c.v.n] 77 (0, 0)) :: (w.heap.size, ob6 c) :: (D, obD (.slice ao n cap) v) :: (Ll ++ F))) from (HO.out.allocAt (Obj.cells #[.int .i64 c.v.t, .int .i64 c.v.n] 77 (0, 0)) (n := W.heap.size) rfl).drew)
  obtain ⟨c0, c1, c2, c3, c4, c5⟩ := cells6 HO.out.head
  simp only [Nat.zero_add] at c1 c2 c3 c4 c5
  have cl : w.heap.size < W.heap.size := lt_of_get HO.out.head
  obtain ⟨d0, d1, d2⟩ := d3 HO.out.tail.head
  have dl : D < W.heap.size := lt_of_get HO.out.tail.head
  have cl1 : w.heap.size < W.heap.size + 1 := by omega
  have dl1 : D < W.heap.size + 1 := by omega
  go_region_law (first
    | (refine step_append_all rfl (.const (.slice none 0 0)) (.tmp 36) 75 rfl _ _ _ Try.underlying75 hi hz0 hz1 hz2 rfl C2_len C2_one rfl Sl.nil (by first | exact HA.out | exact HB.out) _ rfl l Ll HS.out (fun p hp => by simp [hp]) (by simp [HN.out, maxLen]; omega) (by simp [HN.out]; omega) n (by simp [HN.out]) ?_; intro ao1 cap1 w1 L1 hS1 hO1 _; simp only [List.nil_append] at hS1; have hcg := hO1.get (w.heap.size, ob6 c) (by simp); obtain ⟨c60, c61, c62, c63, c64, c65⟩ := cells6 hcg; simp only [Nat.zero_add] at c61 c62 c63 c64 c65; have hdg := hO1.get (D, obD (.slice ao n cap) v) (by simp); obtain ⟨d60, d61, d62⟩ := d3 hdg; have cl6 := lt_of_get hcg; have dl6 := lt_of_get hdg; clear hcg hdg)
    | (refine step_append_sl rfl (.tmp 37) (.tmp 40) 75 rfl _ _ _ Try.underlying75 hi hz0 hz1 hz2 rfl C2_len C2_one rfl hS1 (by first | exact hO1 | exact does_x (hO1.allocAt (Obj.cells #[.int .i64 c.v.t, .int .i64 c.v.n] 77 (0, 0)) rfl)) ⟨_, 0, none⟩ [c.v] 1 1 rfl rfl (by first | exact news_blk6 (C := #[.int .i64 c.v.t, .int .i64 c.v.n]) (t := 77) (fr := (0, 0)) (hO1.get (W.heap.size, Obj.cells #[.int .i64 c.v.t, .int .i64 c.v.n] 77 (0, 0)) (by simp)) | exact news_blk6 (C := #[.int .i64 c.v.t, .int .i64 c.v.n]) (t := 77) (fr := (0, 0)) (hO1.allocAt (Obj.cells #[.int .i64 c.v.t, .int .i64 c.v.n] 77 (0, 0)) rfl).head) (by decide) (by simp [HN.out, maxLen]; omega) (by simp [HN.out]; omega) ?_; intro g off cap' w2 L2 hS2 hO2 _ _; rw [HN.out] at hS2 ⊢; have hdg := hO2.get (D, obD (.slice ao n cap) v) (by simp); obtain ⟨d70, d71, d72⟩ := d3 hdg; have df7 := free_of_get hdg; have dl7 := lt_of_get hdg; clear hdg)
    | fail "no arm")
  all_goals
    have HO3 := Lib.hid ((does_y hO2).setTo 0 (.slice (some ⟨g, off, none⟩) (n + 1) cap') rfl)
    have HS3 := Lib.hid hS2
    clear hO2 hS2
    go_wp2
    go_ret
    exact ⟨by rw [HR.out]; rfl, _, L2, by rw [HR.out]; exact HS3.out, by rw [HR.out]; exact HO3.out⟩

theorem does71 (B : Nat) (w0 : World) (D : Nat) (F : List (Nat × Obj)) (kind : Int) (s : Dst) (vl : Value) (Ll : List (Nat × Obj)) (c : C6) (w : World) (hS : Sl 77 2 C2 vl s.l Ll) (hl : s.l.length ≤ 100000) (hO : Sh.Own B w0 w ((D, obD vl s.v) :: (Ll ++ F))) :
    Calls Try.prog 71 #[.pointer (some ⟨D, 0, none⟩), .int .i64 kind, agg6 c] w (DoesPost6 B w0 D F (doesD kind s c)) := by
  by_cases hk : kind = 2
  · subst hk
    by_cases h1 : c.op = 1
    · exact does_put2 B w0 D F s vl Ll c w hS hO h1
    · by_cases h2 : c.til = 0
      · exact does_open B w0 D F s vl Ll c w hS hO h1 h2
      · by_cases h5 : s.v = c.v
        · exact does_eqV B w0 D F s vl Ll c w hS hO h1 h2 h5
        · by_cases ht : s.v.t = c.v.t
          · exact does_neN B w0 D F s vl Ll c w hS hO h1 h2 ht (fun hn => h5 (by cases hs : s.v; cases hcv : c.v; simp_all))
          · exact does_neT B w0 D F s vl Ll c w hS hO h1 h2 ht
  · obtain ⟨l, v⟩ := s
    by_cases h1 : c.op = 1
    · exact does_put B w0 D F kind l v vl Ll c w hk hS hl hO h1
    · cases l with
      | nil => exact does_nil B w0 D F kind v vl Ll c w hk hS hO h1
      | cons x r =>
        by_cases h2 : c.til = 0
        · exact does_takeO B w0 D F kind x r v vl Ll c w hk hS hl hO h1 h2
        · by_cases h5 : x = c.v
          · exact does_takeV B w0 D F kind x r v vl Ll c w hk hS hl hO h1 h2 h5
          · by_cases ht : x.t = c.v.t
            · exact does_refN B w0 D F kind x r v vl Ll c w hk hS hl hO h1 h2 ht (fun hn => h5 (by cases x; cases hcv : c.v; simp_all))
            · exact does_refT B w0 D F kind x r v vl Ll c w hk hS hl hO h1 h2 ht

end Go.Proofs.Ytojcojoleodjmaa
