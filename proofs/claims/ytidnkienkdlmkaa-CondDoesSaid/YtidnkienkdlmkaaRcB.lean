/-
  The document's condition: contract of Drop. Conditions: few waiters.
-/
import Derived.Test.YtidnkienkdlmkaaRcA
import Derived.Deep.RegionLaw
namespace Go.Proofs.Ytidnkienkdlmkaa
open Go.RowKit Go.Sh

theorem inQ_hit {q : List (Int × Bool)} {who : Int} {k : Nat} (hk : k < q.length) (h : q[k].1 = who) : inQ q who = true := by
  unfold inQ
  rw [List.contains_iff_mem]
  exact List.mem_map.2 ⟨q[k], List.getElem_mem hk, h⟩

theorem inQ_none {q : List (Int × Bool)} {who : Int} (h : ∀ j (hj : j < q.length), q[j].1 ≠ who) : inQ q who = false := by
  unfold inQ
  cases hc : (q.map Prod.fst).contains who with
  | false => rfl
  | true =>
    rw [List.contains_iff_mem] at hc
    obtain ⟨x, hx, he⟩ := List.mem_map.1 hc
    obtain ⟨j, hj, rfl⟩ := List.getElem_of_mem hx
    exact absurd he (h j hj)

set_option maxRecDepth 100000 in
set_option maxHeartbeats 4000000 in
theorem rdrop79 (B : Nat) (w0 : World) (bc b0 b1 : Nat) (s : KS) (L F : List (Nat × Obj)) (who : Int) (w : World) (hK : Kr bc b0 b1 s L) (hO : Own B w0 w (L ++ F)) :
    Calls Try.prog 79 #[.pointer (some ⟨bc, 0, none⟩), .int .i64 who] w fun e w' => e = .returned (.int .i64 (kdropK s who).1) ∧ ∃ L', Kr bc b0 b1 (kdropK s who).2 L' ∧ Own B w0 w' (L' ++ F) := by
  obtain ⟨i0, hinf, hz0, hz1, hz2⟩ := info_parts Try.info134
  have hlq := hK.lenq
  obtain ⟨Lc, R, hsp, ⟨v, Lq, rfl, hs, hl⟩, _, hback⟩ := hK.cond (B := B) (w0 := w0)
  have hO3 := hsp w F hO
  simp only [List.cons_append] at hO3
  have hh := hO3.head
  have hc0 : w.cell? ⟨bc, 0, none⟩ = some v := cell_of_get hh 0
  have hlt := lt_of_get hh
  have hf0 : w.frozen? ⟨bc, 0, none⟩ = false := free_of_get hh 0
  obtain ⟨ao, cap, rfl, hr⟩ := rd_cw (Sl_rd (w := w) hs (fun p hp => hO3.get p (by simp [hp])))
  have hel : (encQ b0 b1 s.q).length = s.q.length := by simp [encQ]
  have hee : ∀ i (hi : i < s.q.length), (encQ b0 b1 s.q)[i]'(by rw [hel]; exact hi) = ⟨s.q[i].1, mb b0 b1 s.q[i].2⟩ := fun i hi => by simp [encQ]
  have HR := Lib.hid (show ∀ i (hi : i < s.q.length), ∃ g off, ao = some ⟨g, off, none⟩ ∧ g < w.heap.size ∧ w.cell? ⟨g, off + i * 2, none⟩ = some (.int .i64 s.q[i].1) by
    intro i hi
    obtain ⟨g, off, h1, h2, h3, _⟩ := hr i (by rw [hel]; exact hi)
    rw [hee i hi] at h3
    exact ⟨g, off, h1, h2, h3⟩)
  rw [hel] at hc0 hs
  have HS := Lib.hid hs
  have HB := Lib.hid hback
  have HO := Lib.hid hO
  have HO3 := Lib.hid hO3
  have HEL := Lib.hid hel
  clear hr hh hs hback hsp hO hO3 hee hel
  go_enter Try.func79, Try.ntmps79
  go_wp2
  go_loop [5] (fun i => ∃ k : Nat, k ≤ s.q.length ∧ i = .int .i64 k ∧ Hid (∀ j (hj : j < s.q.length), j < k → s.q[j].1 ≠ who)) (fun i => s.q.length - (intOf i).toNat)
  case atStart => exact ⟨0, Nat.zero_le _, rfl, Lib.hid fun _ _ h => by omega⟩
  case round =>
    obtain ⟨k, hk, rfl, HN⟩ := hrel
    by_cases hltk : k < s.q.length
    · obtain ⟨g, off, rfl, hg, e0⟩ := HR.out k hltk
      have hki : (k : Int) < s.q.length := by omega
      by_cases hq : s.q[k].1 = who
      · have hin := inQ_hit hltk hq
        have hid : idx (s.q.map Prod.fst) who = k := idx_at (by simpa using hltk) (by simp [hq]) (fun j hj => by
          have := HN.out j (by omega) hj
          simpa [show j < s.q.length by omega] using this)
        obtain ⟨zs, hz⟩ : ∃ zs, s.q.take k ++ s.q.drop (k + 1) = zs := ⟨_, rfl⟩
        have hzl : zs.length ≤ 256 := by rw [← hz]; simp; omega
        have HD := Lib.hid (show kdropK s who = (0, s.withQ zs) by simp [kdropK, hin, outQ, hid, ← hz])
        have HZ := Lib.hid (show (encQ b0 b1 s.q).take k ++ (encQ b0 b1 s.q).drop (k + 1) = encQ b0 b1 zs by rw [← hz]; simp [encQ])
        have HL := Lib.hid (show k + (s.q.length - (k + 1)) = zs.length by rw [← hz]; simp; omega)
        have hqb : (s.q[k].1 == who) = true := by simpa using hq
        rcases HS.out with ⟨h, _⟩ | ⟨g', off', cap', cur, hv, rfl, hcap, hcm, hsz, hcur⟩
        · cases h
        · simp only [Value.slice.injEq, Option.some.injEq, Addr.mk.injEq, and_true] at hv
          obtain ⟨⟨rfl, rfl⟩, hv2, rfl⟩ := hv
          have ht := HS.out.take CW_len k (by omega)
          obtain ⟨off', hoff, hd'⟩ := HS.out.dropIf CW_len (k + 1) (by omega) (cap = k + 1) id
          have HT := Lib.hid ht
          have HDD := Lib.hid hd'
          have HCM := Lib.hid hcm
          have HOFF := Lib.hid hoff
          have hcap2 : s.q.length ≤ cap := by rw [hv2]; exact hcap
          have HEN := Lib.hid (show (encQ b0 b1 s.q).length = s.q.length by rw [hv2])
          clear hcm hsz hcur hoff ht hd' hz hq hin hid hcap hv2
          have hi0 : (0 : Int) ≤ k := by omega
          have hi1 : (k : Int) + 1 ≤ s.q.length := by omega
          have hic : k ≤ cap := by omega
          have hO4 := HO3.out
          rw [HEN.out] at hO4
          clear HO HR HS HN
          go_wp2
          have e1 : IntKind.i64.wrap ((k : Int) + 1) = (k : Int) + 1 := IntWalk.i64_in _ (by omega)
          have e2 : (0 : Int) ≤ (k : Int) + 1 := by omega
          have e3 : ((k : Int) + 1).toNat = k + 1 := by omega
          go_region_law (first | (refine step_append_all rfl (.const (.slice none 0 0)) (.tmp 31) 80 rfl _ _ _ Try.underlying80 hinf hz0 hz1 hz2 rfl CW_len CW_one rfl (Sl.nil (e := 134) (k := 2) (enc := CW)) hO4.drew _ rfl ((encQ b0 b1 s.q).take k) [(g, Obj.cells cur 134 (0, 0))] (by exact HT.out) (by simp) (by simp only [List.length_nil, List.length_take, maxLen, HEN.out]; omega) (by simp only [List.length_nil, List.length_take, HEN.out]; omega) k (by simp only [List.length_nil, List.length_take, HEN.out]; omega) ?_; intro ao1 cap1 w1 L1 hS1 hO1 hge1; have hh1 : w1.heap[bc]? = some (robj (.slice (some ⟨g, off, none⟩) s.q.length cap)) := hO1.get (bc, _) (by simp); have k0 : w1.cell? ⟨bc, 0, none⟩ = some (.slice (some ⟨g, off, none⟩) s.q.length cap) := cell_of_get hh1 0; have HS1 := Lib.hid hS1; clear hS1 hh1) | (refine step_append_all rfl (.tmp 32) (.tmp 39) 80 rfl _ _ _ Try.underlying80 hinf hz0 hz1 hz2 rfl CW_len CW_one rfl (by exact HS1.out) hO1 _ rfl ((encQ b0 b1 s.q).drop (k + 1)) [(g, Obj.cells cur 134 (0, 0))] (by rw [HOFF.out]; exact HDD.out) (by simp) (by simp only [List.nil_append, List.length_drop, List.length_take, maxLen, HEN.out]; omega) (by simp only [List.nil_append, List.length_drop, List.length_take, HEN.out]; omega) zs.length (by rw [← HL.out]; simp only [List.nil_append, List.length_drop, List.length_take, HEN.out]; omega) ?_; intro ao2 cap2 w2 L2 hS2 hO2 hge2; rw [List.nil_append, HZ.out] at hS2; have hO5 := hO2.shuf [L2, [_], [_], R ++ F] [1, 0, 2, 3] rfl rfl; have k1 : w2.cell? ⟨bc, 0, none⟩ = some (.slice (some ⟨g, off, none⟩) s.q.length cap) := cell_of_get hO5.head 0; have k2 : w2.frozen? ⟨bc, 0, none⟩ = false := free_of_get hO5.head 0; have k3 := lt_of_get hO5.head))
          all_goals
            have hO6 := ((hO5.setTo 0 (.slice ao2 zs.length cap2) rfl).shuf [[_], L2, [_], R ++ F] [2, 0, 1, 3] rfl rfl).tail
            obtain ⟨L', hK', hb⟩ := HB.out zs ((bc, robj (.slice ao2 zs.length cap2)) :: L2) ⟨_, L2, rfl, hS2, by simp [encQ]; omega⟩
            have HO7 := Lib.hid (hb _ F hO6)
            clear hO1 hO2 k0 k1 hO4 hO5 hO6 hS2 hb
            rw [HOFF.out]
            go_wp2
            go_ret
            rw [HD.out]
            exact ⟨rfl, L', hK', HO7.out⟩
      · have hqb : (s.q[k].1 == who) = false := by simpa using hq
        have HQ := Lib.hid hq
        clear hq
        go_wp2
        exact ⟨⟨k + 1, by omega, by go_num, Lib.hid fun j hj hjk => by
          rcases Nat.lt_succ_iff_lt_or_eq.1 hjk with h' | rfl
          · exact HN.out j hj h'
          · exact HQ.out⟩, by simp [intOf]; omega⟩
    · obtain rfl : k = s.q.length := by omega
      have HD := Lib.hid (show kdropK s who = (6, s) by simp [kdropK, inQ_none (fun j hj => HN.out j hj hj)])
      go_wp2
      go_ret
      rw [HD.out]
      exact ⟨rfl, L, hK, HO.out⟩

end Go.Proofs.Ytidnkienkdlmkaa
