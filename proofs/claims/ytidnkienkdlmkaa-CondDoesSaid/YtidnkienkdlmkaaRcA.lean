/-
  The document's condition (shuttleref17) with two mutexes: what lies in memory; contract of Who. Conditions: few waiters; who waits for a mutex is a thread.
-/
import Derived.Test.YtidnkienkdlmkaaCdG
import Derived.Test.YtidnkienkdlmkaaRefMxB
import Derived.Deep.DrawnRows
namespace Go.Proofs.Ytidnkienkdlmkaa
open Go.RowKit Go.Sh
attribute [local go_sem ↓] Go.wp_at_zero Go.wp_at_succ

theorem Try.info134 : (Try.prog.info? 134).map (fun i => (i.zero, i.size, i.bytes)) = some (some (.agg #[.int .i64 0, .pointer none]), 2, 16) := by kernel_rfl

/-- The document's condition in block b. -/
abbrev robj (v : Value) : Obj := Obj.cells #[v] 82 (0, 0)
def Rkx (b : Nat) (q : List WC) (L : List (Nat × Obj)) : Prop := ∃ v Lq, L = (b, robj v) :: Lq ∧ Sl 134 2 CW v q Lq ∧ q.length ≤ 256
/-- Its mutex; who waits is a thread. -/
def Rm (b : Nat) (own : Option Int) (ws : List Int) (L : List (Nat × Obj)) : Prop := Rx b own ws L ∧ ∀ x ∈ ws, 0 ≤ x

def Kr (bc b0 b1 : Nat) (s : KS) (L : List (Nat × Obj)) : Prop :=
  ∃ Lc L0 L1, L = Lc ++ (L0 ++ L1) ∧ Rkx bc (encQ b0 b1 s.q) Lc ∧ Rm b0 s.o0 s.ws0 L0 ∧ Rm b1 s.o1 s.ws1 L1

theorem lockR_pos {own : Option Int} {ws : List Int} (who : Int) (h : ∀ x ∈ ws, 0 ≤ x) : ∀ x ∈ (lockR own ws who).ws, 0 ≤ x := by
  unfold lockR
  intro x hx
  by_cases h1 : mayR ws who ≠ 0
  · rw [if_pos h1] at hx; exact h x hx
  · rw [if_neg h1] at hx
    have h0 := mayR_ge (show mayR ws who = 0 by omega)
    split at hx
    · exact h x hx
    · split at hx
      · exact h x hx
      · split at hx
        · exact h x hx
        · rcases List.mem_append.1 hx with h2 | h2
          · exact h x h2
          · simp at h2; omega

theorem unlockR_pos {own : Option Int} {ws : List Int} (who : Int) (h : ∀ x ∈ ws, 0 ≤ x) : ∀ x ∈ (unlockR own ws who).ws, 0 ≤ x := by
  rcases unlockR_cases own ws who with h1 | h1 | ⟨_, _, h1⟩ | ⟨x, r, _, rfl, h1⟩
  · rw [h1]; exact h
  · rw [h1]; exact h
  · rw [h1]; simp
  · rw [h1]; exact fun y hy => h y (List.mem_cons_of_mem _ hy)

section
variable {B : Nat} {w0 : World} {bc b0 b1 : Nat} {s : KS} {L : List (Nat × Obj)}

theorem Kr.mutex (h : Kr bc b0 b1 s L) (m : Bool) : ∃ Lm R, (∀ w F, Own B w0 w (L ++ F) → Own B w0 w (Lm ++ (R ++ F))) ∧ Rm (mb b0 b1 m) (s.own m) (s.ws m) Lm ∧ (∀ p ∈ Lm, p ∈ L) ∧
    ∀ o' ws' Lm', Rm (mb b0 b1 m) o' ws' Lm' → ∃ L', Kr bc b0 b1 (s.put m o' ws') L' ∧ ∀ w F, Own B w0 w (Lm' ++ (R ++ F)) → Own B w0 w (L' ++ F) := by
  obtain ⟨Lc, L0, L1, rfl, hc, h0, h1⟩ := h
  cases m with
  | false =>
    refine ⟨L0, Lc ++ L1, fun w F hO => ?_, h0, fun p hp => by simp [hp], fun o' ws' Lm' hm => ⟨Lc ++ (Lm' ++ L1), ⟨Lc, Lm', L1, rfl, hc, hm, h1⟩, fun w F hO => ?_⟩⟩
    · have h := hO.perm (L' := L0 ++ ((Lc ++ L1) ++ F)) (by simp only [List.append_assoc]; exact List.perm_append_comm_assoc _ _ _)
      exact h
    · exact hO.perm (by simp only [List.append_assoc]; exact List.perm_append_comm_assoc _ _ _)
  | true =>
    refine ⟨L1, Lc ++ L0, fun w F hO => ?_, h1, fun p hp => by simp [hp], fun o' ws' Lm' hm => ⟨Lc ++ (L0 ++ Lm'), ⟨Lc, L0, Lm', rfl, hc, h0, hm⟩, fun w F hO => ?_⟩⟩
    · exact hO.perm (by rw [← List.append_assoc Lc L0 L1]; simpa [List.append_assoc] using (List.perm_append_comm_assoc (Lc ++ L0) L1 F))
    · exact hO.perm (by rw [← List.append_assoc Lc L0 Lm']; simpa [List.append_assoc] using (List.perm_append_comm_assoc (Lc ++ L0) Lm' F).symm)

theorem Kr.cond (h : Kr bc b0 b1 s L) : ∃ Lc R, (∀ w F, Own B w0 w (L ++ F) → Own B w0 w (Lc ++ (R ++ F))) ∧ Rkx bc (encQ b0 b1 s.q) Lc ∧ (∀ p ∈ Lc, p ∈ L) ∧
    ∀ q' Lc', Rkx bc (encQ b0 b1 q') Lc' → ∃ L', Kr bc b0 b1 (s.withQ q') L' ∧ ∀ w F, Own B w0 w (Lc' ++ (R ++ F)) → Own B w0 w (L' ++ F) := by
  obtain ⟨Lc, L0, L1, rfl, hc, h0, h1⟩ := h
  exact ⟨Lc, L0 ++ L1, fun w F hO => by simpa [List.append_assoc] using hO, hc, fun p hp => by simp [hp], fun q' Lc' hm => ⟨Lc' ++ (L0 ++ L1), ⟨Lc', L0, L1, rfl, hm, h0, h1⟩, fun w F hO => by simpa [List.append_assoc] using hO⟩⟩

theorem Kr.lenq (h : Kr bc b0 b1 s L) : s.q.length ≤ 256 := by
  obtain ⟨_, _, _, _, ⟨_, _, _, _, hl⟩, _, _⟩ := h
  simpa [encQ] using hl

theorem Kr.cells {w : World} {F : List (Nat × Obj)} (h : Kr bc b0 b1 s L) (hO : Own B w0 w F) (hL : ∀ p ∈ L, p ∈ F) :
    ∃ a c, w.cell? ⟨bc, 0, none⟩ = some (.slice a s.q.length c) ∧ bc < w.heap.size := by
  obtain ⟨Lc, L0, L1, rfl, ⟨v, Lq, rfl, hs, hl⟩, _, _⟩ := h
  obtain ⟨a, c, rfl, _⟩ := hs.form
  have hb := hO.get (bc, robj (.slice a (encQ b0 b1 s.q).length c)) (hL _ (by simp))
  exact ⟨a, c, by have := cell_of_get hb 0; simpa [encQ] using this, lt_of_get hb⟩

theorem Kr.mem (h : Kr bc b0 b1 s L) (m : Bool) : ∃ Lm, Rm (mb b0 b1 m) (s.own m) (s.ws m) Lm ∧ ∀ p ∈ Lm, p ∈ L := by
  obtain ⟨Lc, L0, L1, rfl, hc, h0, h1⟩ := h
  cases m with
  | false => exact ⟨L0, h0, fun p hp => by simp [hp]⟩
  | true => exact ⟨L1, h1, fun p hp => by simp [hp]⟩

theorem Kr.rd {w : World} {F : List (Nat × Obj)} (h : Kr bc b0 b1 s L) (hO : Own B w0 w F) (hL : ∀ p ∈ L, p ∈ F) :
    ∃ v, w.cell? ⟨bc, 0, none⟩ = some v ∧ Rd w CW v (encQ b0 b1 s.q) := by
  obtain ⟨Lc, L0, L1, rfl, ⟨v, Lq, rfl, hs, hl⟩, _, _⟩ := h
  exact ⟨v, cell_of_get (hO.get (bc, robj v) (hL _ (by simp))) 0, Sl_rd hs (fun p hp => hO.get p (hL p (by simp [hp])))⟩

theorem Kr.wsLen (h : Kr bc b0 b1 s L) (m : Bool) : (s.ws m).length ≤ 256 := by
  obtain ⟨Lm, ⟨⟨_, _, _, _, _, hl⟩, _⟩, _⟩ := h.mem m
  exact hl

theorem Rkx.new (b : Nat) : Rkx b [] [(b, robj (.slice none 0 0))] := ⟨_, [], rfl, Sl.nil, by simp⟩
theorem Rm.new (b : Nat) : Rm b none [] [(b, Obj.cells #[.int .i64 (-1), .slice none 0 0] 87 (0, 0))] := ⟨Rx.new b, by simp⟩

end

set_option maxRecDepth 100000 in
set_option maxHeartbeats 2000000 in
theorem rwho40 (B : Nat) (w0 : World) (bc b0 b1 : Nat) (s : KS) (L F : List (Nat × Obj)) (w : World) (hK : Kr bc b0 b1 s L) (hL : ∀ p ∈ L, p ∈ F) (hO : Own B w0 w F) :
    Calls Try.prog 40 #[.pointer (some ⟨bc, 0, none⟩)] w (NewSl 3 1 I B w0 F (s.q.map Prod.fst)) := by
  obtain ⟨i0, hi, hz0, hz1, hz2⟩ := info_parts Try.info3
  have hlq := hK.lenq
  rw [← encQ_who b0 b1]
  obtain ⟨Lc, L0, L1, rfl, ⟨v, Lq, rfl, hs, hl⟩, _, _⟩ := hK
  obtain ⟨ao, cap, rfl, hcap, _⟩ := hs.form
  obtain ⟨xs, hxs⟩ : ∃ xs, encQ b0 b1 s.q = xs := ⟨_, rfl⟩
  rw [hxs] at hs hl hcap hL ⊢
  have hblk : ∀ (wr : World) Lo, Own B w0 wr (Lo ++ F) → wr.cell? ⟨bc, 0, none⟩ = some (.slice ao xs.length cap) ∧ bc < wr.heap.size := fun wr Lo h => by
    have hb := h.get (bc, robj (.slice ao xs.length cap)) (List.mem_append_right _ (hL _ (by simp)))
    exact ⟨cell_of_get hb 0, lt_of_get hb⟩
  have HBLK := Lib.hid hblk
  have HRD := Lib.hid (show ∀ (wr : World) Lo, Own B w0 wr (Lo ++ F) → ∀ i (hi : i < xs.length), ∃ g off, ao = some ⟨g, off, none⟩ ∧ g < wr.heap.size ∧ wr.cell? ⟨g, off + i * 2, none⟩ = some (.int .i64 xs[i].who) ∧ wr.cell? ⟨g, off + i * 2 + 1, none⟩ = some (.pointer (some ⟨xs[i].m, 0, none⟩)) by
    intro wr Lo h i hi
    obtain ⟨ao', cap', he, hc⟩ := rd_cw (Sl_rd (w := wr) hs (fun p hp => h.get p (List.mem_append_right _ (hL p (by simp [hp])))))
    simp only [Value.slice.injEq, true_and] at he
    obtain ⟨rfl, rfl⟩ := he
    exact hc i hi)
  have HO := Lib.hid hO
  have hxl : xs.length ≤ 1000 := by omega
  clear hs hO hxs hlq hblk
  go_enter Try.func40, Try.ntmps40
  go_wp2
  go_loopw [3, 4] (fun s3 i wr => WtRel B w0 F xs s3 i wr) (fun _ i _ => xs.length - (intOf i).toNat)
  case atStart => exact ⟨0, [], Nat.zero_le _, rfl, by simpa using Sl.nil, HO.out⟩
  case round =>
    obtain ⟨k, Lo, hk, rfl, hS, hO⟩ := hrel
    obtain ⟨so, sc, rfl, hsc, _⟩ := hS.form
    obtain ⟨hcc, hcl⟩ := HBLK.out wr Lo hO
    obtain ⟨ys, hys⟩ : ∃ ys, ys = (xs.map WC.who).take k := ⟨_, rfl⟩
    rw [← hys] at hS hsc ⊢
    have hlk : ys.length ≤ 1000 := by rw [hys]; simp; omega
    have HYS := Lib.hid hys
    clear hys
    by_cases hlt : k < xs.length
    · obtain ⟨g, off, rfl, hg, k0, k1⟩ := HRD.out wr Lo hO k hlt
      have hki : (k : Int) < xs.length := by omega
      have hO2 := hO.junk (.cells #[.int .i64 xs[k].who] 3)
      have hsn := Lib.hid (show ys ++ [xs[k].who] = (xs.map WC.who).take (k + 1) by
        rw [HYS.out, List.take_succ_eq_append_getElem (by simpa using hlt)]; simp)
      have hsl := Lib.hid (show ys.length + 1 = ((xs.map WC.who).take (k + 1)).length by rw [← hsn.out]; simp)
      clear hO
      go_wp2_with (at_builtin; refine wpList_append_sl rfl (.tmp 14) (.tmp 23) 26 rfl _ _ _ Try.underlying26 hi hz0 hz1 hz2 rfl I_len I_one rfl hS (by exact hO2) ⟨wr.heap.size, 0, none⟩ [xs[k].who] 1 1 rfl rfl (news_one (x := .int .i64 xs[k].who) (by simp)) (by decide) (by unfold maxLen; omega) (by omega) ?_)
      intro g' off' cap' w3 L3 hS3 hO3 _ _
      rw [hsn.out] at hS3
      have HS3 := Lib.hid hS3
      clear hO2 hS hS3
      go_wp2
      exact ⟨⟨k + 1, L3, by omega, by go_num, HS3.out, hO3⟩, by simp [intOf]; omega⟩
    · obtain rfl : k = xs.length := by omega
      have hS' : Sl 3 1 I (.slice so ys.length sc) (xs.map WC.who) Lo := by rw [show xs.map WC.who = ys by rw [HYS.out, List.take_of_length_le (by simp)]]; exact hS
      have HS := Lib.hid hS'
      clear hS hS' hlk
      go_wp2
      go_ret
      exact ⟨_, Lo, rfl, HS.out, hO⟩

end Go.Proofs.Ytidnkienkdlmkaa
