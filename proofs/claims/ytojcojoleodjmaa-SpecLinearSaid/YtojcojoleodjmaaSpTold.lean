/-
  spec: contract of told over All. Condition: few calls.
-/
import Derived.Test.YtojcojoleodjmaaSpAn
namespace Go.Proofs.Ytojcojoleodjmaa
open Go.RowKit Go.Shelf Go.Sh
attribute [local go_sem] Oper.semAt_some

abbrev o63 (v : Value) : Obj := Obj.cells #[v] 63 (0, 0)
abbrev o3 (n : Int) : Obj := Obj.cells #[.int .i64 n] 3 (0, 0)

theorem allT_in {kind : Int} {xs : List C6} {x : List Int} (h : x ∈ allT kind xs) : x.length ≤ xs.length + 1 := by
  unfold allT at h
  split at h
  · obtain ⟨r, h1, h2, _⟩ := all_holds kind xs _ _ _ _ x h
    rw [h1]
    simpa using h2
  · simp at h

theorem stepIn_append {F : Fence} {n : Nat} {P : Program} {ops : Array Oper} {o : Oper} {a : Act} {w w' : World} {K : Act → World → Prop} {Q : Exit → Act → World → Prop} {E : Prop} {v' : Value} (hg : o.guard = none) (s x : Operand) (t : TypeId)
    (hop : o.op = Op.call { callee := Callee.builtin Builtin.append, args := #[s, x], argTypes := #[t, t] }) (hrun : (Builtin.append_ #[t, t] o.type #[a.eval s, a.eval x]).run P w = .ok v' w') (hK : K (a.put o.dst v') w') :
    if Region.wanted o (yielded ops a.tmps) = true then Oper.wpIn F n P o a w K Q else E := by
  have hw : Region.wanted o (yielded ops a.tmps) = true := by simp [Region.wanted, hg]
  rw [if_pos hw]
  unfold Oper.wpIn
  refine ⟨?_, ?_⟩
  · simp [Oper.about, hop, resolve, Target.leads, Sem.run_pure]
  · rw [Oper.semAt_plain F _ _ (by rw [hop]; intro c hc'; cases hc')]
    simp [execOp, hop, resolve, invoke, builtin, hrun, Result.andThen]
    exact hK

theorem told_0 {B : Nat} {w0 w : World} {l k v m : Nat × Obj} {F : List (Nat × Obj)} (h : Sh.Own B w0 w (v :: m :: l :: k :: F)) : Sh.Own B w0 w ([m, v] ++ (l :: k :: F)) := own_swap h
theorem told_a {B : Nat} {w0 w : World} {n m v : Nat × Obj} {Lc L0 Lin R : List (Nat × Obj)} (h : Sh.Own B w0 w (n :: (Lc ++ (((m :: v :: (L0 ++ Lin))) ++ R)))) : Sh.Own B w0 w (L0 ++ (n :: (Lc ++ (m :: v :: (Lin ++ R))))) := by
  have e : (m :: v :: (L0 ++ Lin)) ++ R = m :: v :: (L0 ++ (Lin ++ R)) := by simp
  rw [e] at h
  exact h.shuf [[n], Lc, [m, v], L0, Lin, R] [3, 0, 1, 2, 4, 5] rfl rfl
theorem told_b {B : Nat} {w0 w : World} {n m v : Nat × Obj} {Lc L6 Lin R : List (Nat × Obj)} (h : Sh.Own B w0 w (L6 ++ (n :: (Lc ++ (m :: v :: (Lin ++ R)))))) : Sh.Own B w0 w (v :: (n :: m :: (L6 ++ (Lin ++ (Lc ++ R))))) :=
  h.shuf [L6, [n], Lc, [m], [v], Lin, R] [4, 1, 3, 0, 5, 2, 6] rfl rfl
theorem told_c {B : Nat} {w0 w : World} {n m v : Nat × Obj} {Lc L6 Lin Lo G : List (Nat × Obj)} (h : Sh.Own B w0 w (v :: (n :: m :: (L6 ++ (Lin ++ (Lc ++ (Lo ++ G))))))) : Sh.Own B w0 w ((m :: v :: (L6 ++ (Lin ++ Lc))) ++ G) := by
  have e : (m :: v :: (L6 ++ (Lin ++ Lc))) ++ G = m :: v :: (L6 ++ (Lin ++ (Lc ++ G))) := by simp
  rw [e]
  exact (show Sh.Own B w0 w (Lo ++ (m :: v :: (L6 ++ (Lin ++ (Lc ++ G))))) from (h.shuf [[v], [n], [m], L6, Lin, Lc, Lo, G] [1, 6, 2, 0, 3, 4, 5, 7] rfl rfl).tail).right
theorem told_e {B : Nat} {w0 w : World} {Lb Lo G : List (Nat × Obj)} (h : Sh.Own B w0 w (Lb ++ (Lo ++ G))) : Sh.Own B w0 w (Lb ++ G) :=
  (h.shuf [Lb, Lo, G] [1, 0, 2] rfl rfl).right
theorem told_d {B : Nat} {w0 w : World} {m v d : Nat × Obj} {L R : List (Nat × Obj)} (h : Sh.Own B w0 w ((m :: v :: L) ++ (d :: R))) : Sh.Own B w0 w (d :: v :: m :: (L ++ R)) :=
  h.shuf [[m], [v], L, [d], R] [3, 1, 0, 2, 4] rfl rfl

def ToldI (M V most : Nat) (pre : List (List Int)) (Lb : List (Nat × Obj)) : Prop := ∃ v L, Lb = (M, o3 most) :: (V, o63 v) :: L ∧ SlL v pre L ∧ pre.length ≤ most
def ToldX (M V most : Nat) (c : Code) (pre : List (List Int)) (Lb : List (Nat × Obj)) : Prop := ∃ v L q x, c = .exit 0 ∧ pre = q ++ [x] ∧ q.length = most ∧ Lb = (M, o3 most) :: (V, o63 v) :: L ∧ SlL v q L

set_option maxRecDepth 100000 in
set_option maxHeartbeats 4000000 in
theorem told36 (B : Nat) (w0 : World) (F : List (Nat × Obj)) (kind : Int) (lv : Value) (xs : List C6) (Bk Bl : Nat) (most : Nat) (w : World) (hR : RdA B w0 F lv xs) (hcap : ∀ ao n c, lv = .slice ao n c → n ≤ c) (hx2 : xs.length ≤ 900)
    (hO : Sh.Own B w0 w ((Bl, obL lv) :: (Bk, obK kind) :: F)) (hm : most ≤ 2000000) :
    Calls Try.prog 36 #[.func (.func 59) #[] #[.pointer (some ⟨Bk, 0, none⟩), .pointer (some ⟨Bl, 0, none⟩)], .int .i64 most] w (NewL B w0 ((Bl, obL lv) :: (Bk, obK kind) :: F) ((allT kind xs).take most)) := by
  obtain ⟨i8, hi8, hz80, hz81, hz82⟩ := info_parts Try.info28
  have HC := Lib.hid (allc59 B w0 F kind lv xs)
  have HR := Lib.hid hR
  have HCAP := Lib.hid hcap
  have HO := Lib.hid hO
  obtain ⟨T, hT⟩ : ∃ T, allT kind xs = T := ⟨_, rfl⟩
  have HTL := Lib.hid (show ∀ x ∈ T, x.length ≤ 100000 from fun x h => by rw [← hT] at h; have := allT_in h; omega)
  rw [hT] at HC ⊢
  have hnil : ∀ (W : World) (b : Array Value), (binOp BinOp.eql 69 (.func (.func 59) #[] b) .nilFunc).run Try.prog W = .ok (.bool false) W := fun _ _ => by kernel_rfl
  clear hO hR hcap hT
  refine (callsIn_wide (n := 4)).1 (callsIn_of_wp_marks Try.func36 rfl trivial ?_ rfl)
  simp only [Try.ntmps36, List.size_toArray, List.length_cons, List.length_nil, Nat.reduceAdd, Nat.reduceSub, Array.replicate_succ, Array.replicate_zero, List.push_toArray, List.append_toArray, List.nil_append, List.cons_append]
  have HO1 := Lib.hid (told_0 ((HO.out.allocAt (o3 most) (n := w.heap.size) rfl).allocAt (o63 (.slice none 0 0)) (n := w.heap.size + 1) (by simp)))
  clear HO
  gi_wp2
  clear hnil
  refine wpIn_rangeFunc_sep rfl (by omega) (gf := 59) (lb := #[.pointer (some ⟨Bk, 0, none⟩), .pointer (some ⟨Bl, 0, none⟩)]) rfl trivial (enters_of Try.func59 (by kernel_rfl) rfl)
    (HC.out 3 Bk Bl HR.out HCAP.out (by omega)) HO1.out rfl
    (ToldI w.heap.size (w.heap.size + 1) most)
    (ToldX w.heap.size (w.heap.size + 1) most)
    ⟨_, [], rfl, slL_nil, by simp⟩
    (fun v => { tmps := #[.func (.func 59) #[] #[.pointer (some ⟨Bk, 0, none⟩), .pointer (some ⟨Bl, 0, none⟩)], .int .i64 most, undef, .pointer (some ⟨w.heap.size, 0, none⟩), .slice none 0 0, .pointer (some ⟨w.heap.size + 1, 0, none⟩), v, .func (.func 59) #[] #[.pointer (some ⟨Bk, 0, none⟩), .pointer (some ⟨Bl, 0, none⟩)], .bool false, .func (.func 59) #[] #[.pointer (some ⟨Bk, 0, none⟩), .pointer (some ⟨Bl, 0, none⟩)], v, undef, undef, undef, undef, undef, undef, undef, undef, undef, undef], defers := [] }) ?assign ?body ?done ?stop
  case assign =>
    intro l v W K hK
    gi_wp2
    exact hK
  case body =>
    rintro l pre x v Lo Lb G W hpre hv ⟨vo, L, rfl, hSl, hpl⟩ hW
    obtain ⟨av, cv, rfl, _⟩ := slL_form hSl
    obtain ⟨ss, L0, Lin, hS0, hMem, rfl⟩ := hSl
    obtain ⟨n, hn⟩ : ∃ n, pre.length = n := ⟨_, rfl⟩
    have hv2 : Sl 3 1 I v x Lo := hv
    obtain ⟨ax, cx, rfl, _, _⟩ := hv2.form
    obtain ⟨nx, hnx⟩ : ∃ n, x.length = n := ⟨_, rfl⟩
    have hss := hMem.1
    rw [hn] at hS0 hW hpl hss
    rw [hnx] at hv2
    rw [hnx]
    have g0 := hW.get (w.heap.size, o3 most) (by simp)
    have g1 := hW.get (w.heap.size + 1, o63 (.slice av n cv)) (by simp)
    have q0 := cell_of_get g0 0
    have q1 := cell_of_get g1 0
    have y0 := lt_of_get g0
    have y1 := lt_of_get g1
    have HX := Lib.hid hv2
    have HNX := Lib.hid hnx
    have HN := Lib.hid hn
    have HSL := Lib.hid hss
    have HS0 := Lib.hid hS0
    have HMem := Lib.hid hMem
    have HXL := Lib.hid (show x.length ≤ 100000 from HTL.out x (hpre.subset (by simp)))
    have HW := Lib.hid hW
    clear hW hv hv2 g0 g1 hS0 hMem hss hnx hn hpre
    by_cases hlt : n < most
    · have b1 : decide ((most : Int) ≤ n) = false := by simp; omega
      have b2 : decide (most ≤ n) = false := by simp; omega
      gi_wp2
      refine wpIn_region_any (by kernel_rfl) ?_
      change wpAnyIn _ _ _ _ _ _ _ _ _ (World.drew _)
      refine wpAnyIn_ready (rs := [0, 1]) (by kernel_rfl) (by simp) ?_
      refine (AllReadyIn.cons rfl (fun K hK => ?_) (AllReadyIn.cons rfl (fun K hK => ?_) AllReadyIn.nil))
      · go_simp
        refine hK _ _ ?_
        clear hK K
        (try simp only [Act.put, List.setIfInBounds_toArray, List.set_cons_zero, List.set_cons_succ])
        refine wpAnyIn_ready (rs := [1]) (by kernel_rfl) (by simp) ?_
        refine (AllReadyIn.cons rfl (fun K hK => ?_) AllReadyIn.nil)
        go_simp
        refine hK _ _ ?_
        clear hK K
        (try simp only [Act.put, List.setIfInBounds_toArray, List.set_cons_zero, List.set_cons_succ])
        refine wpAnyIn_ready (rs := [2]) (by kernel_rfl) (by simp) ?_
        refine (AllReadyIn.cons rfl (fun K hK => ?_) AllReadyIn.nil)
        go_simp
        refine ⟨trivial, (CallsIn.inRound l (callsIn_wide.2 (clone52 B w0 _ x (.slice ax nx cx) Lo W.drew HX.out (fun p hp => by simp [hp]) HW.out.drew HXL.out))).mono ?_⟩
        rintro e w2 ⟨vc, Lc, rfl, hSc, hOc⟩
        obtain ⟨ac, cc, rfl, _, _⟩ := hSc.form
        rw [HNX.out] at hSc ⊢
        have qV := cell_of_get (hOc.get (w.heap.size + 1, o63 (.slice av n cv)) (by simp)) 0
        have lV := lt_of_get (hOc.get (w.heap.size + 1, o63 (.slice av n cv)) (by simp))
        have HSc := Lib.hid hSc
        have HOc := Lib.hid (told_a (hOc.allocAt (Obj.cells #[.slice ac nx cc] 28 (0, 0)) (n := w2.heap.size) rfl))
        have HNc := Lib.hid (news_blk6 (C := #[.slice ac nx cc]) (t := 28) (fr := (0, 0)) (hOc.allocAt (Obj.cells #[.slice ac nx cc] 28 (0, 0)) (n := w2.heap.size) rfl).head)
        clear hSc hOc
        refine hK _ _ ?_
        clear hK K
        (try simp only [Act.put, List.setIfInBounds_toArray, List.set_cons_zero, List.set_cons_succ])
        refine wpAnyIn_ready (rs := [3]) (by kernel_rfl) (by simp) ?_
        refine (AllReadyIn.cons rfl (fun K hK => ?_) AllReadyIn.nil)
        go_simp
        refine hK _ _ ?_
        clear hK K
        (try simp only [Act.put, List.setIfInBounds_toArray, List.set_cons_zero, List.set_cons_succ])
        refine wpAnyIn_ready (rs := [4]) (by kernel_rfl) (by simp) ?_
        refine (AllReadyIn.cons rfl (fun K hK => ?_) AllReadyIn.nil)
        obtain ⟨g6, off6, cap6, w6, L6, hr6, hS6, hO6, hg6, _⟩ := run_append_sl (P := Try.prog) 63 63 i8 _ _ Try.underlying63 hi8 hz80 hz81 hz82 rfl S1_len S1_one HS0.out HOc.out ⟨w2.heap.size, 0, none⟩ [(⟨ac, nx, cc⟩ : SV)] 1 HNc.out (by simp) (by rw [HSL.out]; simp [maxLen]; omega) (by rw [HSL.out]; simp; omega)
        rw [HSL.out] at hr6 hS6
        refine stepIn_append rfl (.tmp 15) (.tmp 18) 63 rfl (by exact hr6) ?_
        have hOv := told_b hO6
        have qV6 := cell_of_get hOv.head 0
        have lV6 := lt_of_get hOv.head
        have fV6 := free_of_get hOv.head
        have HO6 := Lib.hid (told_c (hOv.setTo 0 (.slice (some ⟨g6, off6, none⟩) (n + 1) cap6) rfl))
        have HS6 := Lib.hid hS6
        clear hO6 hOv hS6 hr6
        refine hK _ _ ?_
        clear hK K
        (try simp only [Act.put, List.setIfInBounds_toArray])
        refine wpAnyIn_ready (rs := [5]) (by kernel_rfl) (by simp) ?_
        refine (AllReadyIn.cons rfl (fun K hK => ?_) AllReadyIn.nil)
        go_simp
        refine hK _ _ ?_
        clear hK K
        refine wpAnyIn_done (by kernel_rfl) ?_ _
        exact ⟨_, ⟨.slice (some ⟨g6, off6, none⟩) (n + 1) cap6, L6 ++ (Lin ++ Lc), rfl, ⟨_, L6, Lin ++ Lc, HS6.out, mem_push HMem.out HSc.out, rfl⟩, by rw [List.length_append, HN.out]; simp; omega⟩, HO6.out⟩
      · go_simp
        refine hK _ _ ?_
        clear hK K
        (try simp only [Act.put, List.setIfInBounds_toArray, List.set_cons_zero, List.set_cons_succ])
        refine wpAnyIn_ready (rs := [0, 2]) (by kernel_rfl) (by simp) ?_
        refine (AllReadyIn.cons rfl (fun K hK => ?_) (AllReadyIn.cons rfl (fun K hK => ?_) AllReadyIn.nil))
        · go_simp
          refine hK _ _ ?_
          clear hK K
          (try simp only [Act.put, List.setIfInBounds_toArray, List.set_cons_zero, List.set_cons_succ])
          refine wpAnyIn_ready (rs := [2]) (by kernel_rfl) (by simp) ?_
          refine (AllReadyIn.cons rfl (fun K hK => ?_) AllReadyIn.nil)
          go_simp
          refine ⟨trivial, (CallsIn.inRound l (callsIn_wide.2 (clone52 B w0 _ x (.slice ax nx cx) Lo W.drew HX.out (fun p hp => by simp [hp]) HW.out.drew HXL.out))).mono ?_⟩
          rintro e w2 ⟨vc, Lc, rfl, hSc, hOc⟩
          obtain ⟨ac, cc, rfl, _, _⟩ := hSc.form
          rw [HNX.out] at hSc ⊢
          have qV := cell_of_get (hOc.get (w.heap.size + 1, o63 (.slice av n cv)) (by simp)) 0
          have lV := lt_of_get (hOc.get (w.heap.size + 1, o63 (.slice av n cv)) (by simp))
          have HSc := Lib.hid hSc
          have HOc := Lib.hid (told_a (hOc.allocAt (Obj.cells #[.slice ac nx cc] 28 (0, 0)) (n := w2.heap.size) rfl))
          have HNc := Lib.hid (news_blk6 (C := #[.slice ac nx cc]) (t := 28) (fr := (0, 0)) (hOc.allocAt (Obj.cells #[.slice ac nx cc] 28 (0, 0)) (n := w2.heap.size) rfl).head)
          clear hSc hOc
          refine hK _ _ ?_
          clear hK K
          (try simp only [Act.put, List.setIfInBounds_toArray, List.set_cons_zero, List.set_cons_succ])
          refine wpAnyIn_ready (rs := [3]) (by kernel_rfl) (by simp) ?_
          refine (AllReadyIn.cons rfl (fun K hK => ?_) AllReadyIn.nil)
          go_simp
          refine hK _ _ ?_
          clear hK K
          (try simp only [Act.put, List.setIfInBounds_toArray, List.set_cons_zero, List.set_cons_succ])
          refine wpAnyIn_ready (rs := [4]) (by kernel_rfl) (by simp) ?_
          refine (AllReadyIn.cons rfl (fun K hK => ?_) AllReadyIn.nil)
          obtain ⟨g6, off6, cap6, w6, L6, hr6, hS6, hO6, hg6, _⟩ := run_append_sl (P := Try.prog) 63 63 i8 _ _ Try.underlying63 hi8 hz80 hz81 hz82 rfl S1_len S1_one HS0.out HOc.out ⟨w2.heap.size, 0, none⟩ [(⟨ac, nx, cc⟩ : SV)] 1 HNc.out (by simp) (by rw [HSL.out]; simp [maxLen]; omega) (by rw [HSL.out]; simp; omega)
          rw [HSL.out] at hr6 hS6
          refine stepIn_append rfl (.tmp 15) (.tmp 18) 63 rfl (by exact hr6) ?_
          have hOv := told_b hO6
          have qV6 := cell_of_get hOv.head 0
          have lV6 := lt_of_get hOv.head
          have fV6 := free_of_get hOv.head
          have HO6 := Lib.hid (told_c (hOv.setTo 0 (.slice (some ⟨g6, off6, none⟩) (n + 1) cap6) rfl))
          have HS6 := Lib.hid hS6
          clear hO6 hOv hS6 hr6
          refine hK _ _ ?_
          clear hK K
          (try simp only [Act.put, List.setIfInBounds_toArray])
          refine wpAnyIn_ready (rs := [5]) (by kernel_rfl) (by simp) ?_
          refine (AllReadyIn.cons rfl (fun K hK => ?_) AllReadyIn.nil)
          go_simp
          refine hK _ _ ?_
          clear hK K
          refine wpAnyIn_done (by kernel_rfl) ?_ _
          exact ⟨_, ⟨.slice (some ⟨g6, off6, none⟩) (n + 1) cap6, L6 ++ (Lin ++ Lc), rfl, ⟨_, L6, Lin ++ Lc, HS6.out, mem_push HMem.out HSc.out, rfl⟩, by rw [List.length_append, HN.out]; simp; omega⟩, HO6.out⟩
        · go_simp
          refine ⟨trivial, (CallsIn.inRound l (callsIn_wide.2 (clone52 B w0 _ x (.slice ax nx cx) Lo W.drew HX.out (fun p hp => by simp [hp]) HW.out.drew HXL.out))).mono ?_⟩
          rintro e w2 ⟨vc, Lc, rfl, hSc, hOc⟩
          obtain ⟨ac, cc, rfl, _, _⟩ := hSc.form
          rw [HNX.out] at hSc ⊢
          have qV := cell_of_get (hOc.get (w.heap.size + 1, o63 (.slice av n cv)) (by simp)) 0
          have lV := lt_of_get (hOc.get (w.heap.size + 1, o63 (.slice av n cv)) (by simp))
          have HSc := Lib.hid hSc
          have HOc := Lib.hid (told_a (hOc.allocAt (Obj.cells #[.slice ac nx cc] 28 (0, 0)) (n := w2.heap.size) rfl))
          have HNc := Lib.hid (news_blk6 (C := #[.slice ac nx cc]) (t := 28) (fr := (0, 0)) (hOc.allocAt (Obj.cells #[.slice ac nx cc] 28 (0, 0)) (n := w2.heap.size) rfl).head)
          clear hSc hOc
          refine hK _ _ ?_
          clear hK K
          (try simp only [Act.put, List.setIfInBounds_toArray, List.set_cons_zero, List.set_cons_succ])
          refine wpAnyIn_ready (rs := [0, 3]) (by kernel_rfl) (by simp) ?_
          refine (AllReadyIn.cons rfl (fun K hK => ?_) (AllReadyIn.cons rfl (fun K hK => ?_) AllReadyIn.nil))
          · go_simp
            refine hK _ _ ?_
            clear hK K
            (try simp only [Act.put, List.setIfInBounds_toArray, List.set_cons_zero, List.set_cons_succ])
            refine wpAnyIn_ready (rs := [3]) (by kernel_rfl) (by simp) ?_
            refine (AllReadyIn.cons rfl (fun K hK => ?_) AllReadyIn.nil)
            go_simp
            refine hK _ _ ?_
            clear hK K
            (try simp only [Act.put, List.setIfInBounds_toArray, List.set_cons_zero, List.set_cons_succ])
            refine wpAnyIn_ready (rs := [4]) (by kernel_rfl) (by simp) ?_
            refine (AllReadyIn.cons rfl (fun K hK => ?_) AllReadyIn.nil)
            obtain ⟨g6, off6, cap6, w6, L6, hr6, hS6, hO6, hg6, _⟩ := run_append_sl (P := Try.prog) 63 63 i8 _ _ Try.underlying63 hi8 hz80 hz81 hz82 rfl S1_len S1_one HS0.out HOc.out ⟨w2.heap.size, 0, none⟩ [(⟨ac, nx, cc⟩ : SV)] 1 HNc.out (by simp) (by rw [HSL.out]; simp [maxLen]; omega) (by rw [HSL.out]; simp; omega)
            rw [HSL.out] at hr6 hS6
            refine stepIn_append rfl (.tmp 15) (.tmp 18) 63 rfl (by exact hr6) ?_
            have hOv := told_b hO6
            have qV6 := cell_of_get hOv.head 0
            have lV6 := lt_of_get hOv.head
            have fV6 := free_of_get hOv.head
            have HO6 := Lib.hid (told_c (hOv.setTo 0 (.slice (some ⟨g6, off6, none⟩) (n + 1) cap6) rfl))
            have HS6 := Lib.hid hS6
            clear hO6 hOv hS6 hr6
            refine hK _ _ ?_
            clear hK K
            (try simp only [Act.put, List.setIfInBounds_toArray])
            refine wpAnyIn_ready (rs := [5]) (by kernel_rfl) (by simp) ?_
            refine (AllReadyIn.cons rfl (fun K hK => ?_) AllReadyIn.nil)
            go_simp
            refine hK _ _ ?_
            clear hK K
            refine wpAnyIn_done (by kernel_rfl) ?_ _
            exact ⟨_, ⟨.slice (some ⟨g6, off6, none⟩) (n + 1) cap6, L6 ++ (Lin ++ Lc), rfl, ⟨_, L6, Lin ++ Lc, HS6.out, mem_push HMem.out HSc.out, rfl⟩, by rw [List.length_append, HN.out]; simp; omega⟩, HO6.out⟩
          · go_simp
            refine hK _ _ ?_
            clear hK K
            (try simp only [Act.put, List.setIfInBounds_toArray, List.set_cons_zero, List.set_cons_succ])
            refine wpAnyIn_ready (rs := [0]) (by kernel_rfl) (by simp) ?_
            refine (AllReadyIn.cons rfl (fun K hK => ?_) AllReadyIn.nil)
            go_simp
            refine hK _ _ ?_
            clear hK K
            (try simp only [Act.put, List.setIfInBounds_toArray, List.set_cons_zero, List.set_cons_succ])
            refine wpAnyIn_ready (rs := [4]) (by kernel_rfl) (by simp) ?_
            refine (AllReadyIn.cons rfl (fun K hK => ?_) AllReadyIn.nil)
            obtain ⟨g6, off6, cap6, w6, L6, hr6, hS6, hO6, hg6, _⟩ := run_append_sl (P := Try.prog) 63 63 i8 _ _ Try.underlying63 hi8 hz80 hz81 hz82 rfl S1_len S1_one HS0.out HOc.out ⟨w2.heap.size, 0, none⟩ [(⟨ac, nx, cc⟩ : SV)] 1 HNc.out (by simp) (by rw [HSL.out]; simp [maxLen]; omega) (by rw [HSL.out]; simp; omega)
            rw [HSL.out] at hr6 hS6
            refine stepIn_append rfl (.tmp 15) (.tmp 18) 63 rfl (by exact hr6) ?_
            have hOv := told_b hO6
            have qV6 := cell_of_get hOv.head 0
            have lV6 := lt_of_get hOv.head
            have fV6 := free_of_get hOv.head
            have HO6 := Lib.hid (told_c (hOv.setTo 0 (.slice (some ⟨g6, off6, none⟩) (n + 1) cap6) rfl))
            have HS6 := Lib.hid hS6
            clear hO6 hOv hS6 hr6
            refine hK _ _ ?_
            clear hK K
            (try simp only [Act.put, List.setIfInBounds_toArray])
            refine wpAnyIn_ready (rs := [5]) (by kernel_rfl) (by simp) ?_
            refine (AllReadyIn.cons rfl (fun K hK => ?_) AllReadyIn.nil)
            go_simp
            refine hK _ _ ?_
            clear hK K
            refine wpAnyIn_done (by kernel_rfl) ?_ _
            exact ⟨_, ⟨.slice (some ⟨g6, off6, none⟩) (n + 1) cap6, L6 ++ (Lin ++ Lc), rfl, ⟨_, L6, Lin ++ Lc, HS6.out, mem_push HMem.out HSc.out, rfl⟩, by rw [List.length_append, HN.out]; simp; omega⟩, HO6.out⟩
    · obtain rfl : n = most := by omega
      have b1 : decide ((n : Int) ≤ n) = true := by simp
      have b2 : decide (n ≤ n) = true := by simp
      gi_wp2
      exact ⟨_, ⟨.slice av n cv, L0 ++ Lin, pre, x, rfl, rfl, HN.out, rfl, ⟨_, L0, Lin, HS0.out, HMem.out, rfl⟩⟩, told_e HW.out⟩
  case done =>
    rintro D Lb W ⟨v, L, rfl, hSl, hpl⟩ hW
    obtain ⟨av, cv, rfl, _⟩ := slL_form hSl
    have hTT : T.take most = T := List.take_of_length_le hpl
    have HTT := Lib.hid hTT
    have HS := Lib.hid hSl
    have hW2 := told_d hW
    have g1 := hW2.get (w.heap.size + 1, o63 (.slice av T.length cv)) (by simp)
    have q1 := cell_of_get g1 0
    have y1 := lt_of_get g1
    have HK := Lib.hid hW2.head
    have hW3 := hW2.putObj (.deferred none)
    have HW3 := Lib.hid hW3.tail.tail.tail
    clear hW hW2 hW3 g1 hSl hTT hpl
    gi_wp2
    refine ⟨by simp, .inl ⟨_, _, rfl, run_takeDeferred HK.out, ?_⟩⟩
    refine ⟨.slice av T.length cv, by simp [results, Try.results36, go_sem], ?_⟩
    rw [HTT.out]
    exact ⟨_, L, rfl, HS.out, HW3.out⟩
  case stop =>
    rintro D c pre Lb W hpre ⟨v, L, q, x, rfl, rfl, hq, rfl, hSl⟩ hW
    obtain ⟨av, cv, rfl, _⟩ := slL_form hSl
    have hTT : T.take most = q := by
      obtain ⟨t, ht⟩ := hpre
      rw [← ht, List.append_assoc, List.take_append_of_le_length (by omega), List.take_of_length_le (by omega)]
    have HTT := Lib.hid hTT
    have HS := Lib.hid hSl
    have hW2 := told_d hW
    have g1 := hW2.get (w.heap.size + 1, o63 (.slice av q.length cv)) (by simp)
    have q1 := cell_of_get g1 0
    have y1 := lt_of_get g1
    have HK := Lib.hid hW2.head
    have hW3 := hW2.putObj (.deferred none)
    have HW3 := Lib.hid hW3.tail.tail.tail
    clear hW hW2 hW3 g1 hSl hTT hpre hq
    gi_wp2
    refine ⟨by simp, .inl ⟨_, _, rfl, run_takeDeferred HK.out, ?_⟩⟩
    refine ⟨.slice av q.length cv, by simp [results, Try.results36, go_sem], ?_⟩
    rw [HTT.out]
    exact ⟨_, L, rfl, HS.out, HW3.out⟩

end Go.Proofs.Ytojcojoleodjmaa

