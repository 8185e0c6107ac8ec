/-
  Contract of cond's cut. Condition: few waiters.
-/
import Derived.Test.YtidnkienkdlmkaaCdA
import Derived.Deep.RegionHeld3
import Derived.Deep.DrawnRows
namespace Go.Proofs.Ytidnkienkdlmkaa
open Go.RowKit Go.Sh
attribute [local go_sem ↓] Go.wp_at_zero Go.wp_at_succ

abbrev wobj (x : WC) : Obj := Obj.cells #[.int .i64 x.who, .pointer (some ⟨x.m, 0, none⟩)] 128 (0, 0)

def KCutPost (B : Nat) (w0 : World) (b : Nat) (F : List (Nat × Obj)) (x : WC) (q : List WC) (e : Ending) (w' : World) : Prop :=
  e = .returned (.agg #[.int .i64 x.who, .pointer (some ⟨x.m, 0, none⟩)]) ∧ ∃ L', Kx b q L' ∧ Own B w0 w' (L' ++ F)

set_option maxRecDepth 100000 in
set_option maxHeartbeats 2000000 in
theorem cut75 (B : Nat) (w0 : World) (b : Nat) (q : List WC) (L F : List (Nat × Obj)) (i : Nat) (w : World) (hK : Kx b q L) (hO : Own B w0 w (L ++ F)) (hi : i < q.length) :
    Calls Try.prog 75 #[.pointer (some ⟨b, 0, none⟩), .int .i64 i] w (KCutPost B w0 b F q[i] (q.take i ++ q.drop (i + 1))) := by
  obtain ⟨v, Lq, rfl, hs, hl⟩ := hK
  obtain ⟨x, hx⟩ : ∃ x, q[i] = x := ⟨_, rfl⟩
  obtain ⟨zs, hz⟩ : ∃ zs, q.take i ++ q.drop (i + 1) = zs := ⟨_, rfl⟩
  have hzl : zs.length ≤ 256 := by rw [← hz]; simp; omega
  rw [hx, hz]
  have HZ := Lib.hid hz
  have HX := Lib.hid hx
  rcases hs with ⟨_, rfl, _⟩ | ⟨g, off, cap, cur, rfl, rfl, hcap, hcm, hsz, hcur⟩
  · simp at hi
  · have hs : Sl 128 2 CW (.slice (some ⟨g, off, none⟩) q.length cap) q [(g, Obj.cells cur 128 (0, 0))] := .inr ⟨g, off, cap, cur, rfl, rfl, hcap, hcm, hsz, hcur⟩
    have hO3 := hO
    simp only [List.cons_append, List.nil_append] at hO3
    have hh := hO3.head
    have c0 : w.cell? ⟨b, 0, none⟩ = some (.slice (some ⟨g, off, none⟩) q.length cap) := cell_of_get hh 0
    have f0 : w.frozen? ⟨b, 0, none⟩ = false := free_of_get hh 0
    have hlt := lt_of_get hh
    have hlt1 : b < w.heap.size + 1 := by omega
    have hlt2 : b < w.heap.size + 1 + 1 := by omega
    obtain ⟨ao', cap', he, hc⟩ := rd_cw (Sl_rd (w := w) hs (fun p hp => hO3.get p (List.mem_cons_of_mem _ (by simp at hp; subst hp; exact List.mem_cons_self))))
    simp only [Value.slice.injEq, true_and] at he
    obtain ⟨rfl, rfl⟩ := he
    obtain ⟨g', off'', he, hgl, d0, d1⟩ := hc i hi
    simp only [Option.some.injEq, Addr.mk.injEq, and_true] at he
    obtain ⟨rfl, rfl⟩ := he
    rw [hx] at d0 d1
    have hgl1 : g < w.heap.size + 1 := by omega
    have ht := Lib.hid (hs.take CW_len i (by omega))
    obtain ⟨off', hoff, hd'⟩ := hs.dropIf CW_len (i + 1) (by omega) (cap = i + 1) id
    have HOFF := Lib.hid hoff
    have HD := Lib.hid hd'
    have HCM := Lib.hid hcm
    have H4 := Lib.hid ((hO3.allocAt (.cells #[.int .i64 0, .pointer none] 128) (n := w.heap.size) rfl).allocAt (wobj x) (n := w.heap.size + 1) (by simp))
    have hi0 : (0 : Int) ≤ i := by omega
    have hi1 : (i : Int) + 1 ≤ q.length := by omega
    have hi2 : (i : Int) < q.length := by omega
    have hic : i ≤ cap := by omega
    clear hh hcm hsz hcur hs hc hoff hd' hx hz hO hO3
    go_enter Try.func75, Try.ntmps75
    go_wp2
    have e1 : IntKind.i64.wrap ((i : Int) + 1) = (i : Int) + 1 := IntWalk.i64_in _ (by omega)
    have e2 : (0 : Int) ≤ (i : Int) + 1 := by omega
    have e3 : ((i : Int) + 1).toNat = i + 1 := by omega
    go_region_law (go_simp; rw [HOFF.out]; go_at_call 107; refine (concat107 B w0 _ (w.heap.size + 1 + 1) _ _ (q.take i) (q.drop (i + 1)) [(g, Obj.cells cur 128 (0, 0))] [(g, Obj.cells cur 128 (0, 0))] _ List.mem_cons_self ht.out (by simp) HD.out (by simp) ((H4.out.allocAt _ (by simp)).drew) (by simp; omega) (by simp; omega)).mono ?_; rintro e w1 ⟨v1, L1, rfl, hS1, hO1⟩; rw [HZ.out] at hS1; obtain ⟨ao1, cap1, rfl, _, _⟩ := hS1.form; have hO2 := hO1.shuf [L1, [_], [_], [_], [_], [_], F] [4, 2, 3, 0, 6, 1, 5] rfl rfl; have k0 := cell_of_get hO2.head 0; have k1 := free_of_get hO2.head 0; have kl := lt_of_get hO2.head; have hx1 := hO2.tail.head; have x0 := cell_of_get hx1 0; have x1 := cell_of_get hx1 1; have xl := lt_of_get hx1; have hz1 := hO2.tail.tail.head; have z0 := cell_of_get hz1 0; have z1 := cell_of_get hz1 1; have zf := free_of_get hz1; have zl := lt_of_get hz1; simp only [List.getElem?_toArray] at k0 x0 x1 z0 z1; clear hx1 hz1)
    all_goals
      have n1 : b ≠ w.heap.size := by omega
      have n2 : b ≠ w.heap.size + 1 := by omega
      have n3 : w.heap.size ≠ b := by omega
      have n4 : w.heap.size + 1 ≠ b := by omega
      have hO4 := (hO2.setTo 0 (.slice ao1 zs.length cap1) rfl).shuf [[_], [_], [_], L1, F, [_], [_]] [2, 1, 0, 3, 4, 5, 6] rfl rfl
      have hO5 := (hO4.setTo 0 (.int .i64 x.who) rfl).setTo 1 (.pointer (some ⟨x.m, 0, none⟩)) rfl
      have r0 := cell_of_get hO5.head 0
      have r1 := cell_of_get hO5.head 1
      simp at r0 r1
      have HO5 := Lib.hid (hO5.shuf [[_], [_], [_], L1, F, [_], [_]] [2, 3, 4, 0, 1, 5, 6] rfl rfl)
      clear hO1 hO2 hO4 hO5 c0 f0 d0 d1
      go_wp2
      refine bodyPost_ret (v := .agg #[.int .i64 x.who, .pointer (some ⟨x.m, 0, none⟩)]) (by simp [results, Try.results75, go_sem, r0, r1]) rfl ⟨rfl, (b, kobj (.slice ao1 zs.length cap1)) :: L1, ⟨_, L1, rfl, hS1, hzl⟩, ?_⟩
      exact (show Own B w0 _ (((b, kobj (.slice ao1 zs.length cap1)) :: (L1 ++ F)) ++ _) from by simpa [cat] using HO5.out).left

end Go.Proofs.Ytidnkienkdlmkaa
