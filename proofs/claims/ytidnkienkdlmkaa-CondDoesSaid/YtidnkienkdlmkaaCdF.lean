/-
  Contracts of cond's Drop, Waits, and of Wait where there is no condition, or no mutex. Condition: few waiters.
-/
import Derived.Test.YtidnkienkdlmkaaCdE
namespace Go.Proofs.Ytidnkienkdlmkaa
open Go.RowKit Go.Sh

def outQ (q : List (Int × Bool)) (who : Int) : List (Int × Bool) := q.take (idx (q.map Prod.fst) who).toNat ++ q.drop ((idx (q.map Prod.fst) who).toNat + 1)
def kdropK (s : KS) (who : Int) : Int × KS := if inQ s.q who = true then (0, s.withQ (outQ s.q who)) else (6, s)

def KDropPost (B : Nat) (w0 : World) (bc b0 b1 : Nat) (F : List (Nat × Obj)) (r : Int × KS) (e : Ending) (w' : World) : Prop :=
  e = .returned (.int .i64 r.1) ∧ ∃ L', Kw bc b0 b1 r.2 L' ∧ Own B w0 w' (L' ++ F)

set_option maxRecDepth 100000 in
set_option maxHeartbeats 2000000 in
theorem kdrop36 (B : Nat) (w0 : World) (bc b0 b1 : Nat) (s : KS) (L F : List (Nat × Obj)) (who : Int) (w : World) (hK : Kw bc b0 b1 s L) (hO : Own B w0 w (L ++ F)) :
    Calls Try.prog 36 #[.pointer (some ⟨bc, 0, none⟩), .int .i64 who] w (KDropPost B w0 bc b0 b1 F (kdropK s who)) := by
  have hlq := hK.lenq
  obtain ⟨a, c, c0, c1, hlt⟩ := hK.cells hO (fun p hp => List.mem_append_left _ hp)
  obtain ⟨v, hv, hrd⟩ := hK.rd hO (fun p hp => List.mem_append_left _ hp)
  have HRD := Lib.hid hrd
  have HO := Lib.hid hO
  clear hrd hO
  rcases qidx_cases b0 b1 s.q who with ⟨hi, hq⟩ | ⟨i, hil, hi, hq⟩
  · have HR := Lib.hid (show kdropK s who = (6, s) by simp [kdropK, hq])
    have HI := Lib.hid hi
    clear hi hq
    go_enter Try.func36, Try.ntmps36
    go_wp2_with (first | (go_at_call 69; refine (knone bc true _ c1).mono ?_; rintro e w' ⟨rfl, rfl⟩) | (go_at_call 70; (with_reducible refine (at70 B w0 _ (encQ b0 b1 s.q) v bc who _ hv HRD.out HO.out (by simp [encQ]; omega)).mono ?_); rintro e w2 ⟨rfl, hO2, _⟩; rw [HI.out]) | fail)
    go_ret
    rw [HR.out]
    exact ⟨rfl, L, hK, hO2⟩
  · have hid : idx (s.q.map Prod.fst) who = i := by rw [← encQ_who b0 b1]; exact hi
    have HR := Lib.hid (show kdropK s who = (0, s.withQ (s.q.take i ++ s.q.drop (i + 1))) by simp [kdropK, hq, outQ, hid])
    have HI := Lib.hid hi
    obtain ⟨Lc, R, hsp, hkx, _, hback⟩ := hK.cond (B := B) (w0 := w0)
    have HSP := Lib.hid hsp
    have HBACK := Lib.hid hback
    have hi0 : (0 : Int) ≤ i := by omega
    clear hi hq hid hsp hback
    go_enter Try.func36, Try.ntmps36
    go_wp2_with (first | (go_at_call 69; refine (knone bc true _ c1).mono ?_; rintro e w' ⟨rfl, rfl⟩) | (go_at_call 70; (with_reducible refine (at70 B w0 _ (encQ b0 b1 s.q) v bc who _ hv HRD.out HO.out (by simp [encQ]; omega)).mono ?_); rintro e w2 ⟨rfl, hO2, _⟩; rw [HI.out]; have hlt2 : bc < w2.heap.size := (hK.cells hO2 (fun p hp => List.mem_append_left _ hp)).choose_spec.choose_spec.2.2) | fail)
    refine (cut75 B w0 bc _ Lc (R ++ F) i _ hkx (HSP.out _ _ hO2) (by simpa [encQ] using hil)).mono ?_
    rintro e w3 ⟨rfl, Lc', hkx', hO3⟩
    obtain ⟨L', hK', hb⟩ := HBACK.out (s.q.take i ++ s.q.drop (i + 1)) Lc' (by simpa [encQ] using hkx')
    have HO4 := Lib.hid (hb _ _ hO3)
    clear hO2 hO3 hb hkx'
    go_wp2
    go_ret
    rw [HR.out]
    exact ⟨rfl, L', hK', HO4.out⟩

def WtRel (B : Nat) (w0 : World) (F : List (Nat × Obj)) (xs : List WC) (s3 i : Value) (wr : World) : Prop :=
  ∃ (k : Nat) (Lo : List (Nat × Obj)), k ≤ xs.length ∧ i = .int .i64 k ∧ Sl 3 1 I s3 ((xs.map WC.who).take k) Lo ∧ Own B w0 wr (Lo ++ F)

set_option maxRecDepth 100000 in
set_option maxHeartbeats 2000000 in
theorem kwaits37 (B : Nat) (w0 : World) (bc b0 b1 : Nat) (s : KS) (L F : List (Nat × Obj)) (w : World) (hK : Kw bc b0 b1 s L) (hL : ∀ p ∈ L, p ∈ F) (hO : Own B w0 w F) :
    Calls Try.prog 37 #[.pointer (some ⟨bc, 0, none⟩)] w (NewSl 3 1 I B w0 F (s.q.map Prod.fst)) := by
  obtain ⟨i0, hi, hz0, hz1, hz2⟩ := info_parts Try.info3
  have hlq := hK.lenq
  rw [← encQ_who b0 b1]
  obtain ⟨a, c, c0, c1, hlt⟩ := hK.cells hO hL
  obtain ⟨Lc, L0, L1, rfl, ⟨v, Lq, rfl, hs, hl⟩, _, _⟩ := hK
  obtain ⟨ao, cap, rfl, hcap, _⟩ := hs.form
  have hcc : w.cell? ⟨bc, 0, none⟩ = some (.slice ao (encQ b0 b1 s.q).length cap) := cell_of_get (hO.get (bc, kobj (.slice ao (encQ b0 b1 s.q).length cap)) (hL _ (by simp))) 0
  obtain ⟨xs, hxs⟩ : ∃ xs, encQ b0 b1 s.q = xs := ⟨_, rfl⟩
  rw [hxs] at hcc hs hl hcap hL ⊢
  have HRD := Lib.hid (show ∀ (wr : World) Lo, Own B w0 wr (Lo ++ F) → ∀ i (hi : i < xs.length), ∃ g off, ao = some ⟨g, off, none⟩ ∧ g < wr.heap.size ∧ wr.cell? ⟨g, off + i * 2, none⟩ = some (.int .i64 xs[i].who) ∧ wr.cell? ⟨g, off + i * 2 + 1, none⟩ = some (.pointer (some ⟨xs[i].m, 0, none⟩)) by
    intro wr Lo h i hi
    obtain ⟨ao', cap', he, hc⟩ := rd_cw (Sl_rd (w := wr) hs (fun p hp => h.get p (List.mem_append_right _ (hL p (by simp [hp])))))
    simp only [Value.slice.injEq, true_and] at he
    obtain ⟨rfl, rfl⟩ := he
    exact hc i hi)
  have HO := Lib.hid hO
  have hxl : xs.length ≤ 1000 := by omega
  clear hs hO hxs c0 hlq
  go_enter Try.func37, Try.ntmps37
  go_wp2_with (go_at_call 69; refine (knone bc true _ c1).mono ?_; rintro e w' ⟨rfl, rfl⟩)
  go_loopw [3, 14] (fun s3 i wr => WtRel B w0 F xs s3 i wr) (fun _ i _ => xs.length - (intOf i).toNat)
  case atStart => exact ⟨0, [], Nat.zero_le _, rfl, by simpa using Sl.nil, HO.out⟩
  case round =>
    obtain ⟨k, Lo, hk, rfl, hS, hO⟩ := hrel
    obtain ⟨so, sc, rfl, hsc, _⟩ := hS.form
    obtain ⟨ys, hys⟩ : ∃ ys, ys = (xs.map WC.who).take k := ⟨_, rfl⟩
    rw [← hys] at hS hsc ⊢
    have hlk : ys.length ≤ 1000 := by rw [hys]; simp; omega
    have HYS := Lib.hid hys
    clear hys
    by_cases hlt : k < xs.length
    · obtain ⟨g, off, rfl, hg, k0, k1⟩ := HRD.out wr Lo hO k hlt
      have hki : (k : Int) < xs.length := by omega
      have hO2 := (hO.junk (.cells #[.int .i64 xs[k].who, .pointer (some ⟨xs[k].m, 0, none⟩)] 128)).junk (.cells #[.int .i64 xs[k].who] 3)
      have hsn := Lib.hid (show ys ++ [xs[k].who] = (xs.map WC.who).take (k + 1) by
        rw [HYS.out, List.take_succ_eq_append_getElem (by simpa using hlt)]; simp)
      have hsl := Lib.hid (show ys.length + 1 = ((xs.map WC.who).take (k + 1)).length by rw [← hsn.out]; simp)
      clear hO
      go_wp2_with (at_builtin; refine wpList_append_sl rfl (.tmp 18) (.tmp 21) 26 rfl _ _ _ Try.underlying26 hi hz0 hz1 hz2 rfl I_len I_one rfl hS (by exact hO2) ⟨wr.heap.size + 1, 0, none⟩ [xs[k].who] 1 1 rfl rfl (news_one (x := .int .i64 xs[k].who) (by simp)) (by decide) (by unfold maxLen; omega) (by omega) ?_)
      intro g' off' cap' w3 L3 hS3 hO3 _ _
      rw [hsn.out] at hS3
      have HS3 := Lib.hid hS3
      clear hO2 hS hS3
      go_wp2
      exact ⟨⟨k + 1, L3, by omega, by go_num, HS3.out, hO3⟩, by simp [intOf]; omega⟩
    · obtain rfl : k = xs.length := by omega
      have hS' : Sl 3 1 I (.slice so ys.length sc) (xs.map WC.who) Lo := by rw [show xs.map WC.who = ys by rw [HYS.out, List.take_of_length_le (by simp)]]; exact hS
      have HS := Lib.hid hS'
      clear hS hS' hlk
      go_wp2
      go_ret
      exact ⟨_, Lo, rfl, HS.out, hO⟩

end Go.Proofs.Ytidnkienkdlmkaa
