import Derived.Test.YtbfgoopomfenjaaDoorMd
namespace Go.Proofs.YtbfgoopomfenjaaDoor
open Go.RowKit Go.Proofs.YtbfgoopomfenjaaDoorW.PrintWords Go.Proofs.YtbfgoopomfenjaaDoorW.PrintLast Go.Proofs.YtbfgoopomfenjaaDoor.PTseitinValues
set_option linter.unusedVariables false
set_option linter.unusedSimpArgs false
attribute [local go_sem] World.cell?_alloc_lt

set_option maxRecDepth 100000 in
set_option maxHeartbeats 4000000 in
theorem lay_node_a (w0 : World) (at_ : List S41) (bA bL bO : Nat) (t : S41) (hp : isPart t.f0 = true) (hop : t.f0 = 1 ∨ t.f0 = 2 ∨ t.f0 = 6) (ih : ∀ (k : Nat) (x : S41), t.f4[k]? = some x → PL w0 at_ bA bL bO x) : PL w0 at_ bA bL bO t := by
  intro A c B d A0 c0 Aa ca st F W hP hB hR hAT hbA hbL hO hL hw hn hl ha
  have HOP := Aside0.mk hop
  clear hop
  have HR := Aside0.mk (layC_part true at_ t st hp)
  obtain ⟨⟨h1, h2⟩, hsub, hok⟩ := cparts_ok hR
  have HOK := Aside0.mk hok
  have HIH := Aside0.mk ih
  have HSUB := Aside0.mk hsub
  have hk2 : t.f4.length ≤ 2 := by have : csN t.f0 ≤ 2 := by (unfold csN; (repeat' split) <;> omega)
                                   omega
  have HSZ : Aside0 (st.n + (t.f4.map csize).sum ≤ 999999 ∧ st.l.length + 4 * (t.f4.map csize).sum ≤ 99999996) := ⟨by rw [csize_eq, csizeL_sum] at hn hl; omega⟩
  have HHA := Aside0.mk ha
  have hlb := hP.C2.2.1
  have HNA : Aside0 (∀ i, Ev (.slice Aa at_.length ca) i → ¬ EvB bO (.slice A0 st.l.length c0) i) := ⟨fun i hi e => e.elim (fun e => by
      subst e
      exact OwnRow.ne_block hAT hO (by decide) hi.symm) (fun e => by
      obtain ⟨_, o1, _⟩ := hAT; obtain ⟨_, o2, _⟩ := hL
      exact own_types o1 o2 (by decide) i hi e)⟩
  have HNbA : Aside0 (¬ EvB bO (.slice A0 st.l.length c0) bA) := ⟨fun e => e.elim (fun e => by subst e; have := hbA.symm.trans hO; injection this with this; injection this with _ this; exact absurd this (by decide)) (fun e => hL.ne hbA (by decide) e)⟩
  have HNbL : Aside0 (¬ EvB bO (.slice A0 st.l.length c0) bL) := ⟨fun e => e.elim (fun e => by subst e; have := hbL.symm.trans hO; injection this with this; injection this with _ this; exact absurd this (by decide)) (fun e => hL.ne hbL (by decide) e)⟩
  have HNB : Aside0 (∀ i, EvB bO (.slice A0 st.l.length c0) i → w0.heap.size ≤ i) := ⟨fun i e => e.elim (fun e => by omega) (fun e => hL.base i e)⟩
  have HNX : Aside0 (∀ i, EvB bO (.slice A0 st.l.length c0) i → i < W.heap.size) := ⟨fun i e => e.elim (fun e => by subst e; exact blk_lt hO) (fun e => hL.lt i e)⟩
  have hBW : Below W.heap.size W (W.alloc (.cells (c41 t A c B d) 41)) := below_alloc (Below.refl _ _) _
  have X : T41 (W.alloc (.cells (c41 t A c B d) 41)) ⟨W.heap.size, 0, none⟩ t A c B d := T41.mk_box (w := W) (blk_new _ _) (hP.below hB) hBW
  have HP := Aside0.mk hP
  have HB := Aside0.mk (hB.trans (hBW.mono hB.size))
  have HAT := Aside0.mk (hAT.upd (Upd.of_below (E := fun _ => False) hBW) (fun _ _ h => h))
  have HbA := Aside0.mk (hbA.kept (grown_of_below hBW none) (by simp))
  have HbL := Aside0.mk (hbL.kept (grown_of_below hBW none) (by simp))
  have HO := Aside0.mk (show OutAt (W.alloc (.cells (c41 t A c B d) 41)) bO st.n (.slice A0 st.l.length c0) from (hBW.block bO (blk_lt hO)).trans hO)
  have HL := Aside0.mk (hL.below hBW)
  have HL0 := Aside0.mk hL
  have HBW := Aside0.mk hBW
  clear hBW hP hB hAT hbA hbL hO hL hR hsub hok ih ha hn hl
  go_enter Tryd.func29, Tryd.ntmps29
  go_upto_region 1 with fail
  generalize hW : W.alloc (.cells (c41 t A c B d) 41) = W0 at *
  clear hW
  obtain ⟨k0, k1, k2, k3, k4, kl0, kln⟩ := X.box
  go_wp2_with (first
    | (go_at_call 30; refine (ts_own t A c B d _ h1 h2).mono ?_; rintro e w1 ⟨rfl, hb⟩; have X1 := X.below hb; obtain ⟨m0, m1, m2, m3, m4, ml0, mln⟩ := X1.box; have HbA1 := Aside0.mk (HbA.out.kept (grown_of_below hb none) (by simp)); have HbL1 := Aside0.mk (HbL.out.kept (grown_of_below hb none) (by simp)); have HAT1 := Aside0.mk (HAT.out.upd (Upd.of_below (E := fun _ => False) hb) (fun _ _ h => h)); have HB1 := Aside0.mk (HB.out.trans (hb.mono HB.out.size)); have HBW1 := Aside0.mk (below_step HBW.out hb); have HO1 := Aside0.mk (show OutAt w1 bO st.n (.slice A0 st.l.length c0) from (hb.block bO (blk_lt HO.out)).trans HO.out); have HL1 := Aside0.mk (HL.out.below hb); clear hb; rw [hp]))
  clear k0 k1 k2 k3 k4 kl0 kln m0 m1 m2 m3 m4 ml0 mln X HbA HbL HAT HB HO HL
  have HX1 := Aside0.mk X1
  clear X1
  go_loopw [6, 8, 20] (fun v _ i wr => LayRel at_ t.f4 st w0 w1 bO F (.slice A0 st.l.length c0) v i wr) (fun _ _ i _ => t.f4.length - (intOf i).toNat)
  case atStart =>
    exact LayRel.mk 0 none 0 A0 c0 (st, []) (by rw [List.take_zero, layL]) (Nat.zero_le _) rfl rfl (own_nil _ _ _ _) HO1.out (HL1.out.weaken (fun i hi hlt => ⟨.inl hi, fun e => by cases e⟩)) (Upd.refl _ _) (.inl rfl)
  case round =>
    obtain ⟨k, Ax, cx, A1, c1, hk, rfl, rfl, HX, HO, HL, HU, HS⟩ := hrel
    have HBk := Aside0.mk (HB1.out.trans (HU.out.below HB1.out.size HNB.out))
    by_cases hlt : k < t.f4.length
    · have hltb : decide (k < t.f4.length) = true := decide_eq_true hlt
      obtain ⟨x, ad, A3, c3, B3, d3, hx, rfl, Z0⟩ := at41 HP.out.C2 k hlt
      have Z := Z0.below HBk.out
      obtain ⟨z0, z1, z2, z3, z4, zl0, zln⟩ := Z.cells
      have HE := Aside0.mk (layL_take true at_ hx st [])
      have hnl := layL_nl true at_ t.f4 st k
      have HQ1 : Aside0 ((layL true at_ (t.f4.take k) st []).1.n + csize x ≤ 1000000 ∧ (layL true at_ (t.f4.take k) st []).1.l.length + 4 * csize x ≤ 100000000) := ⟨by
        have h2 := sumTo_step csize hx
        have h3 := sumTo_le csize t.f4 (k + 1)
        have := HSZ.out
        omega⟩
      have HV := Aside0.mk (layC_val true at_ x (layL true at_ (t.f4.take k) st []).1 HHA.out HQ1.out.1)
      have HXL : Aside0 ((layL true at_ (t.f4.take k) st []).2.length = k) := ⟨by rw [layL_len2, List.length_take]; simp; omega⟩
      have hWB : Below wr.heap.size wr (wr.alloc (.cells #[.int .i64 x.f0, .string x.f1, .string x.f2, .slice A3 x.f3.length c3, .slice B3 x.f4.length d3] 41)) := below_alloc (Below.refl _ _) _
      have HbL2 := Aside0.mk (HU.out.boxed HbL1.out HNbL.out)
      have HC := Aside0.mk (HIH.out k x hx A3 c3 B3 d3 A1 c1 Aa ca (layL true at_ (t.f4.take k) st []).1 _ _ Z0.P (HBk.out.trans (hWB.mono HBk.out.size)) (HOK.out k x hx) ((HAT1.out.upd HU.out HNA.out).upd (Upd.of_below (E := fun _ => False) hWB) (fun _ _ h => h)) ((HU.out.boxed HbA1.out HNbA.out).kept (grown_of_below hWB none) (by simp)) (HbL2.out.kept (grown_of_below hWB none) (by simp)) (show OutAt _ bO _ _ from (hWB.block bO (blk_lt HO.out)).trans HO.out) (HL.out.below hWB) hw HQ1.out.1 HQ1.out.2 HHA.out)
      have HWB := Aside0.mk hWB
      clear hx Z0 hWB hnl
      have f0 := HbL2.out.cell
      have fl := HbL2.out.lt
      have fln : ∀ q, bL < wr.heap.size + q := fun q => by omega
      generalize hst : layL true at_ (t.f4.take k) st [] = R at *
      generalize hrr : layC true at_ x R.1 = S at *
      have hv0 := HV.out.1
      have hv1 := HV.out.2
      go_wp2_with (first
        | (go_at_call 29; refine HC.out.mono ?_; rintro e w2 ⟨rfl, A2, c2, ho2, hl2, hu2, hs2⟩; have HO2 := Aside0.mk ho2; have HL2 := Aside0.mk hl2; have HU2 := Aside0.mk hu2; have HS2 := Aside0.mk hs2; clear ho2 hl2 hu2 hs2)
        | (have hx1 : w2.ownsRow w1.heap.size 3 1 (.slice Ax k cx) R.2.length (nums .i64 R.2) := (by
             rw [HXL.out]
             exact own_move (own_move HX.out (fun i hi => HWB.out.block i (own_lt HX.out i hi))) (fun i hi => HU2.out.block i (Nat.lt_of_lt_of_le (own_lt HX.out i hi) HWB.out.size) (fun e => e.elim (fun e => own_ne HX.out HO.out (by decide) (by rw [← e]; exact hi.symm)) (fun e => by
               obtain ⟨_, o1, _⟩ := HL.out
               exact own_types HX.out o1 (by decide) i hi e))))
           have HX1_ := Aside0.mk hx1
           clear hx1
           at_builtin
           refine print_append_num (w0 := w2) w1.heap.size rfl (.tmp 24) (.tmp 28) 54 3 .i64 8 rfl Tryd.underlying54 info3 (by omega) (.slice Ax k cx) R.2 S.2 rfl rfl HX1_.out (Below.refl _ _) (Nat.le_trans HU.out.size (Nat.le_trans HWB.out.size HU2.out.size)) (by have := HXL.out; omega) ?_
           intro v3 w3 ho3 hb3 hg3 hat3
           have HX3 := Aside0.mk ho3
           have HG3 := Aside0.mk hg3
           have HT3 := Aside0.mk hat3
           clear ho3 hb3 hg3 hat3))
      have hlen : (R.2 ++ [S.2]).length = k + 1 := by rw [List.length_append, HXL.out]; rfl
      have hx3 := HX3.out
      rw [hlen] at hx3
      obtain ⟨A4, c4, rfl⟩ := own_slice hx3
      have HXo := HX1_.out
      obtain ⟨l1, l2⟩ := lay_next (n0 := w0.heap.size) (N := w1.heap.size) (M := (wr.alloc (.cells #[.int .i64 x.f0, .string x.f1, .string x.f2, .slice A3 x.f3.length c3, .slice B3 x.f4.length d3] 41)).heap.size) (bO := bO) (kx := 0) HX1_.out (fun i hi => Nat.lt_of_lt_of_le (own_lt HX.out i hi) HWB.out.size) (Nat.le_trans HU.out.size HWB.out.size) HU2.out.size HL2.out HO2.out HG3.out HT3.out
      refine ⟨?_, by simp [intOf]; omega⟩
      exact LayRel.mk (k + 1) A4 c4 A2 c2 (S.1, R.2 ++ [S.2]) (by rw [HE.out]) (by omega) (by go_num) (by first | rfl | go_num) hx3 l2 l1
        (((HU.out.trans (Upd.of_below HWB.out)).ownB HS.out HU2.out).grown HG3.out (fun r e hlt => absurd (own_base HX1_.out r e) (by omega)))
        (HS.out.trans HS2.out (Nat.le_trans HU.out.size HWB.out.size))
    · have hltb : decide (k < t.f4.length) = false := decide_eq_false hlt
      have hkk : k = t.f4.length := by omega
      have htk : t.f4.take k = t.f4 := List.take_of_length_le (by omega)
      have hnl := layL_nl true at_ t.f4 st k
      have hsz := sumTo_le csize t.f4 k
      have HXL : Aside0 ((layL true at_ t.f4 st []).2.length = t.f4.length) := ⟨by rw [layL_len2]; simp⟩
      rw [htk] at hnl HX HO HL HS
      have hRn : (layL true at_ t.f4 st []).1.n ≤ 999999 := by have := HSZ.out; omega
      have hRl : (layL true at_ t.f4 st []).1.l.length ≤ 99999996 := by have := HSZ.out; omega
      clear hnl hsz
      generalize hst : layL true at_ t.f4 st [] = R at *
      subst hkk
      have o0 : wr.cell? ⟨bO, 0, none⟩ = some (.int .i64 R.1.n) := blk_cell HO.out 0
      have of0 := blk_frozen HO.out 0
      go_upto_region 10 with fail
      have hUs : Upd (fun i => i = bO) wr (wr.setCell ⟨bO, 0, none⟩ (.int .i64 ((R.1.n : Int) + 1))) := (Upd.refl (fun i => i = bO) _).setCell (p := ⟨bO, 0, none⟩) rfl _
      have HO2 : Aside0 (OutAt (wr.setCell ⟨bO, 0, none⟩ (.int .i64 ((R.1.n : Int) + 1))) bO (R.1.n + 1) (.slice A1 R.1.l.length c1)) := ⟨blk_put (cs := #[.int .i64 R.1.n, .slice A1 R.1.l.length c1]) HO.out 0 _ rfl⟩
      have HL2 := Aside0.mk (HL.out.upd hUs (fun i hi e => by subst e; exact HL.out.ne HO.out (by decide) hi) (fun i cur hf hc e => by subst e; have := hc.symm.trans HO.out; injection this with this; injection this with _ this; exact absurd this (by decide)))
      have HX2 := Aside0.mk (own_setCell HX.out (p := ⟨bO, 0, none⟩) (own_ne HX.out HO.out (by decide)) (.int .i64 ((R.1.n : Int) + 1)))
      have HU2 := Aside0.mk (HU.out.setCell (p := ⟨bO, 0, none⟩) (.inl rfl) (.int .i64 ((R.1.n : Int) + 1)))
      clear hUs HO HL HX HU o0 of0
      generalize hW : wr.setCell ⟨bO, 0, none⟩ (.int .i64 ((R.1.n : Int) + 1)) = W1 at *
      clear hW
      have HUW := Aside0.mk ((Upd.of_below (E := EvB bO (.slice A0 st.l.length c0)) HBW1.out).trans HU2.out)
      have HSW := Aside0.mk (OwnStep.trans (n := W.heap.size) (v1 := .slice A0 st.l.length c0) (.inl rfl) HS.out HBW1.out.size)
      have HLW := Aside0.mk (HL2.out.weaken (F' := fun i => F i ∨ W.heap.size ≤ i) (fun i hi _ => hi.1.elim .inl (fun h => .inr (Nat.le_trans HBW1.out.size h))))
      have hn0 : W1.cell? ⟨bO, 0, none⟩ = some (.int .i64 (R.1.n + 1 : Nat)) := blk_cell HO2.out 0
      have hn1 : W1.cell? ⟨bO, 1, none⟩ = some (.slice A1 R.1.l.length c1) := blk_cell HO2.out 1
      have hf1 := blk_frozen HO2.out 1
      have hop0 : W1.cell? ⟨W.heap.size, 0, none⟩ = some (.int .i64 t.f0) := (World.cell?_of_block (w := w1) (a := ⟨W.heap.size, 0, none⟩) (HU2.out.block W.heap.size (HX1.out.lt) (fun e => Nat.lt_irrefl _ (HNX.out _ e)))).trans HX1.out.c0
      have hbO : bO < W1.heap.size := blk_lt HO2.out
      have hbOn : ∀ q, bO < W1.heap.size + q := fun q => by omega
      generalize hvn : R.1.n + 1 = N at *
      have hN : (N : Int) ≤ 1000000 := by omega
      have hN0 : (0 : Int) ≤ (N : Int) := Int.natCast_nonneg _
      by_cases hlong : 4096 < R.1.l.length
      · have hlb1 : decide ((4096 : Int) < (R.1.l.length : Int)) = true := decide_eq_true (by omega)
        have hlb2 : decide (4096 < R.1.l.length) = true := decide_eq_true hlong
        have HR2 : Aside0 (layC true at_ t st = (⟨N, R.1.l⟩, (N : Int))) := ⟨by rw [HR.out, if_pos (by simp; exact hlong)]⟩
        go_wp2_with fail
        go_ret
        rw [HR2.out]
        exact ⟨rfl, A1, c1, HO2.out, HLW.out, HUW.out, HSW.out⟩
      · have hlb1 : decide ((4096 : Int) < (R.1.l.length : Int)) = false := decide_eq_false (by omega)
        have hlb2 : decide (4096 < R.1.l.length) = false := decide_eq_false hlong
        have HR2 : Aside0 (layC true at_ t st = (⟨N, R.1.l ++ cls t.f0 N R.2⟩, (N : Int))) := ⟨by rw [HR.out, if_neg (by simp; omega)]⟩
        have HBW2 := Aside0.mk (HB1.out.trans (HU2.out.below HB1.out.size HNB.out))
        have hop := HOP.out
        obtain hop | hop | hop := hop
        · rw [hop] at hop0 HR2
          have hy : W1.heap.size + 1 = (W1.alloc (.cells #[.int .i64 ((N : Int))] 3)).heap.size := by simp
          have HB2 := Aside0.mk (show Below W1.heap.size W1 ((W1.alloc (.cells #[.int .i64 ((N : Int))] 3)).alloc (.cells #[.slice (some ⟨W1.heap.size, 0, none⟩) 1 1] 54)) from ((Below.refl _ _).alloc (Nat.le_refl _) _).alloc (by simp) _)
          have HBB := Aside0.mk (show ((W1.alloc (.cells #[.int .i64 ((N : Int))] 3)).alloc (.cells #[.slice (some ⟨W1.heap.size, 0, none⟩) 1 1] 54)).heap[W1.heap.size]? = some (.cells (nums .i64 [(N : Int)]).toArray 3 (0, 0)) from by rw [Below.heap_alloc _ _ _ (by simp)]; exact blk_new _ _)
          have HBC := Aside0.mk (show ((W1.alloc (.cells #[.int .i64 ((N : Int))] 3)).alloc (.cells #[.slice (some ⟨W1.heap.size, 0, none⟩) 1 1] 54)).heap[W1.heap.size + 1]? = some (.cells [.slice (some ⟨W1.heap.size, 0, none⟩) 1 1].toArray 54 (0, 0)) from by rw [hy]; exact blk_new _ _)
          clear hy
          go_wp2_with (first | (at_builtin; refine LT.append (F := fun i => F i ∨ W.heap.size ≤ i) (n0 := w0.heap.size) rfl (.tmp 47) (.tmp 50) rfl (.slice A1 R.1.l.length c1) R.1.l [[(N : Int)]] ⟨W1.heap.size + 1, 0, none⟩ 1 [.slice (some ⟨W1.heap.size, 0, none⟩) 1 1] rfl rfl (news_at HBC.out) (Reps.snoc (Reps.none _ _) (RI.blk (ns := [(N : Int)]) HBB.out (.inr HUW.out.size) (by simp)) rfl) rfl (by simp [Value.oneCell']) (HLW.out.below HB2.out) (Nat.le_trans HBW2.out.size HB2.out.size) (by omega) ?_; intro v3 w3 ho3 hg3 hat3; have HL3 := Aside0.mk ho3; have HG3 := Aside0.mk ((Upd.of_below (E := Ev (.slice A1 R.1.l.length c1)) HB2.out).grown hg3 (fun r e _ => e)); have HT3 := Aside0.mk (OwnStep.trans (v1 := .slice A1 R.1.l.length c1) (.inl rfl) hat3 HB2.out.size); have hO3 : OutAt w3 bO N (.slice A1 R.1.l.length c1) := (HG3.out.block bO (blk_lt HO2.out) (fun e => HLW.out.ne HO2.out (by decide) e)).trans HO2.out; have hc3 : w3.cell? ⟨bO, 1, none⟩ = some (.slice A1 R.1.l.length c1) := blk_cell hO3 1; have hf3 := blk_frozen hO3 1; obtain ⟨A5, c5, hv5, hq1, hq2⟩ := ho3.reads; rw [List.length_append, List.length_singleton] at hv5; subst hv5; clear hq1 hq2 ho3 hg3 hat3 hO3))
          go_ret
          exact lay_end (M := cls 1 N R.2) HR2.out HUW.out HSW.out HO2.out HLW.out HG3.out.size HG3.out HT3.out HL3.out
        · rw [hop] at hop0 HR2
          have hy : W1.heap.size + 1 = (W1.alloc (.cells #[.int .i64 (-(N : Int))] 3)).heap.size := by simp
          have HB2 := Aside0.mk (show Below W1.heap.size W1 ((W1.alloc (.cells #[.int .i64 (-(N : Int))] 3)).alloc (.cells #[.slice (some ⟨W1.heap.size, 0, none⟩) 1 1] 54)) from ((Below.refl _ _).alloc (Nat.le_refl _) _).alloc (by simp) _)
          have HBB := Aside0.mk (show ((W1.alloc (.cells #[.int .i64 (-(N : Int))] 3)).alloc (.cells #[.slice (some ⟨W1.heap.size, 0, none⟩) 1 1] 54)).heap[W1.heap.size]? = some (.cells (nums .i64 [-(N : Int)]).toArray 3 (0, 0)) from by rw [Below.heap_alloc _ _ _ (by simp)]; exact blk_new _ _)
          have HBC := Aside0.mk (show ((W1.alloc (.cells #[.int .i64 (-(N : Int))] 3)).alloc (.cells #[.slice (some ⟨W1.heap.size, 0, none⟩) 1 1] 54)).heap[W1.heap.size + 1]? = some (.cells [.slice (some ⟨W1.heap.size, 0, none⟩) 1 1].toArray 54 (0, 0)) from by rw [hy]; exact blk_new _ _)
          clear hy
          go_wp2_with (first | (at_builtin; refine LT.append (F := fun i => F i ∨ W.heap.size ≤ i) (n0 := w0.heap.size) rfl (.tmp 56) (.tmp 60) rfl (.slice A1 R.1.l.length c1) R.1.l [[-(N : Int)]] ⟨W1.heap.size + 1, 0, none⟩ 1 [.slice (some ⟨W1.heap.size, 0, none⟩) 1 1] rfl rfl (news_at HBC.out) (Reps.snoc (Reps.none _ _) (RI.blk (ns := [-(N : Int)]) HBB.out (.inr HUW.out.size) (by simp)) rfl) rfl (by simp [Value.oneCell']) (HLW.out.below HB2.out) (Nat.le_trans HBW2.out.size HB2.out.size) (by omega) ?_; intro v3 w3 ho3 hg3 hat3; have HL3 := Aside0.mk ho3; have HG3 := Aside0.mk ((Upd.of_below (E := Ev (.slice A1 R.1.l.length c1)) HB2.out).grown hg3 (fun r e _ => e)); have HT3 := Aside0.mk (OwnStep.trans (v1 := .slice A1 R.1.l.length c1) (.inl rfl) hat3 HB2.out.size); have hO3 : OutAt w3 bO N (.slice A1 R.1.l.length c1) := (HG3.out.block bO (blk_lt HO2.out) (fun e => HLW.out.ne HO2.out (by decide) e)).trans HO2.out; have hc3 : w3.cell? ⟨bO, 1, none⟩ = some (.slice A1 R.1.l.length c1) := blk_cell hO3 1; have hf3 := blk_frozen hO3 1; obtain ⟨A5, c5, hv5, hq1, hq2⟩ := ho3.reads; rw [List.length_append, List.length_singleton] at hv5; subst hv5; clear hq1 hq2 ho3 hg3 hat3 hO3))
          go_ret
          exact lay_end (M := cls 2 N R.2) HR2.out HUW.out HSW.out HO2.out HLW.out HG3.out.size HG3.out HT3.out HL3.out
        · as_aux_lemma =>
          rw [hop] at hop0 HR2
          have h4 : t.f4.length = 1 := by have h5 := HSUB.out; rw [hop] at h5; have e : csN 6 = 1 := rfl; omega
          have hvs := layL_val true at_ t.f4 st t.f4.length HHA.out (by have := HSZ.out; have := sumTo_le csize t.f4 t.f4.length; omega)
          rw [List.take_length, hst] at hvs
          rw [h4] at HX2
          obtain ⟨gx, rfl, hgx, hxs⟩ := own_cells HX2.out (by omega)
          have hl2 : R.2.length = 1 := HXL.out.trans h4
          obtain ⟨a, hRab⟩ : ∃ a, R.2 = [a] := List.length_eq_one_iff.1 hl2
          have hxa := hxs 0 a (by rw [hRab]; rfl)
          obtain ⟨ha0, ha1⟩ := hvs a (by rw [hRab]; simp)
          have hwn : wrap64 (-(N : Int)) = -(N : Int) := wrap64_id (by omega) (by omega)
          have hwa : wrap64 (-a) = -a := wrap64_id (by omega) (by omega)
          have hwb : wrap64 (-a) = -a := wrap64_id (by omega) (by omega)
          rw [hRab] at HR2
          clear hxs hvs HX2
          rw [h4]
          go_upto_region 19 with fail
          refine start_ (n := 18) (S := fun w' => w'.cell? ⟨bO, 1, none⟩ = some (.slice A1 R.1.l.length c1) ∧ w'.cell? ⟨gx, 0, none⟩ = some (.int .i64 a)) (ds := [15, 17]) #[false, false, false, false, false, false, false, false, false, false, false, false, false, false, false, false, false, false] (by kernel_rfl) rfl rfl ⟨(show W1.drew.cell? _ = _ from hn1), (show W1.drew.cell? _ = _ from hxa)⟩ (fun hHeld => ?_)
          refine pure_ (i := 0) (N := some 65) (v := ?_) (a' := ?_) #[true, false, false, false, false, false, false, false, false, false, false, false, false, false, false, false, false, false] rfl rfl (by kernel_rfl) (fun _ _ _ h => h) (Or.inl ⟨by rfl, ?_⟩) ?_ ?_
          rotate_left
          · intro w'
            go_simp
            with_reducible rfl
          rotate_left
          · simp only [Act.put, List.setIfInBounds_toArray, List.set_cons_zero, List.set_cons_succ, i64_w, i32_w]
            rfl
          refine pure_ (i := 2) (N := some 67) (v := ?_) (a' := ?_) #[true, false, true, false, false, false, false, false, false, false, false, false, false, false, false, false, false, false] rfl rfl (by kernel_rfl) (fun _ _ _ h => h) (Or.inl ⟨by rfl, ?_⟩) ?_ ?_
          rotate_left
          · intro w'
            go_simp
            with_reducible rfl
          rotate_left
          · simp only [Act.put, List.setIfInBounds_toArray, List.set_cons_zero, List.set_cons_succ, i64_w, i32_w]
            rfl
          refine pure_ (i := 3) (N := some 68) (v := ?_) (a' := ?_) #[true, false, true, true, false, false, false, false, false, false, false, false, false, false, false, false, false, false] rfl rfl (by kernel_rfl) (fun _ _ _ h => h) (Or.inl ⟨by rfl, ?_⟩) ?_ ?_
          rotate_left
          · intro w'
            go_simp
            with_reducible rfl
          rotate_left
          · simp only [Act.put, List.setIfInBounds_toArray, List.set_cons_zero, List.set_cons_succ, i64_w, i32_w]
            rfl
          refine pure_ (i := 4) (N := some 69) (v := ?_) (a' := ?_) #[true, false, true, true, true, false, false, false, false, false, false, false, false, false, false, false, false, false] rfl rfl (by kernel_rfl) (fun _ _ _ h => h) (Or.inl ⟨by rfl, ?_⟩) ?_ ?_
          rotate_left
          · intro w'
            go_simp
            with_reducible rfl
          rotate_left
          · simp only [Act.put, List.setIfInBounds_toArray, List.set_cons_zero, List.set_cons_succ, i64_w, i32_w]
            rfl
          refine pure_ (i := 5) (N := some 70) (v := ?_) (a' := ?_) #[true, false, true, true, true, true, false, false, false, false, false, false, false, false, false, false, false, false] rfl rfl (by kernel_rfl) (fun _ _ _ h => h) (Or.inl ⟨by rfl, ?_⟩) ?_ ?_
          rotate_left
          · intro w'
            go_simp
            with_reducible rfl
          rotate_left
          · simp only [Act.put, List.setIfInBounds_toArray, List.set_cons_zero, List.set_cons_succ, i64_w, i32_w]
            rfl
          refine pure_ (i := 9) (N := some 74) (v := ?_) (a' := ?_) #[true, false, true, true, true, true, false, false, false, true, false, false, false, false, false, false, false, false] rfl rfl (by kernel_rfl) (fun _ _ _ h => h) (Or.inl ⟨by rfl, ?_⟩) ?_ ?_
          rotate_left
          · intro w'
            go_simp
            with_reducible rfl
          rotate_left
          · simp only [Act.put, List.setIfInBounds_toArray, List.set_cons_zero, List.set_cons_succ, i64_w, i32_w]
            rfl
          refine pure_ (i := 10) (N := some 75) (v := ?_) (a' := ?_) #[true, false, true, true, true, true, false, false, false, true, true, false, false, false, false, false, false, false] rfl rfl (by kernel_rfl) (fun _ _ _ h => h) (Or.inl ⟨by rfl, ?_⟩) ?_ ?_
          rotate_left
          · intro w'
            go_simp
            with_reducible rfl
          rotate_left
          · simp only [Act.put, List.setIfInBounds_toArray, List.set_cons_zero, List.set_cons_succ, i64_w, i32_w]
            rfl
          refine pure_ (i := 11) (N := some 76) (v := ?_) (a' := ?_) #[true, false, true, true, true, true, false, false, false, true, true, true, false, false, false, false, false, false] rfl rfl (by kernel_rfl) (fun _ _ _ h => h) (Or.inl ⟨by rfl, ?_⟩) ?_ ?_
          rotate_left
          · intro w'
            go_simp
            with_reducible rfl
          rotate_left
          · simp only [Act.put, List.setIfInBounds_toArray, List.set_cons_zero, List.set_cons_succ, i64_w, i32_w]
            rfl
          refine take_ (i := 1) (N := some 66) (v := ?_) (a' := ?_) #[true, true, true, true, true, true, false, false, false, true, true, true, false, false, false, false, false, false] rfl rfl (by kernel_rfl) (fun _ _ _ h => h) (Or.inl ⟨by rfl, ?_⟩) hHeld ?_ ?_
          rotate_left
          · rintro w' ⟨s0, s1⟩
            go_simp
            with_reducible rfl
          rotate_left
          · simp only [Act.put, List.setIfInBounds_toArray, List.set_cons_zero, List.set_cons_succ, i64_w, i32_w]
            rfl
          refine take_ (i := 6) (N := some 71) (v := ?_) (a' := ?_) #[true, true, true, true, true, true, true, false, false, true, true, true, false, false, false, false, false, false] rfl rfl (by kernel_rfl) (fun _ _ _ h => h) (Or.inl ⟨by rfl, ?_⟩) hHeld ?_ ?_
          rotate_left
          · rintro w' ⟨s0, s1⟩
            go_simp
            with_reducible rfl
          rotate_left
          · simp only [Act.put, List.setIfInBounds_toArray, List.set_cons_zero, List.set_cons_succ, i64_w, i32_w]
            rfl
          refine pure_ (i := 7) (N := some 72) (v := ?_) (a' := ?_) #[true, true, true, true, true, true, true, true, false, true, true, true, false, false, false, false, false, false] rfl rfl (by kernel_rfl) (fun _ _ _ h => h) (Or.inl ⟨by rfl, ?_⟩) ?_ ?_
          rotate_left
          · intro w'
            go_simp
            with_reducible rfl
          rotate_left
          · simp only [Act.put, List.setIfInBounds_toArray, List.set_cons_zero, List.set_cons_succ, i64_w, i32_w]
            rfl
          refine take_ (i := 12) (N := some 77) (v := ?_) (a' := ?_) #[true, true, true, true, true, true, true, true, false, true, true, true, true, false, false, false, false, false] rfl rfl (by kernel_rfl) (fun _ _ _ h => h) (Or.inl ⟨by rfl, ?_⟩) hHeld ?_ ?_
          rotate_left
          · rintro w' ⟨s0, s1⟩
            go_simp
            with_reducible rfl
          rotate_left
          · simp only [Act.put, List.setIfInBounds_toArray, List.set_cons_zero, List.set_cons_succ, i64_w, i32_w]
            rfl
          refine join_ (σ := Nat × Nat) 4 #[true, true, true, true, true, true, true, true, true, true, true, true, true, true, false, false, false, false] (fun s => [(73, .slice (some ⟨s.1, 0, none⟩) 2 2), (78, .slice (some ⟨s.2, 0, none⟩) 2 2)]) (fun s w' => (w'.heap[s.1]? = some (.cells #[.int .i64 (-(N : Int)), .int .i64 (-a)] 3 (0, 0)) ∧ W1.heap.size ≤ s.1 ∧ w'.heap[s.2]? = some (.cells #[.int .i64 ((N : Int)), .int .i64 (a)] 3 (0, 0)) ∧ W1.heap.size ≤ s.2) ∧ Below W1.heap.size W1 w') ?_ ?_
          rotate_left
          · intro hCont
            refine two_ (i := 8) (j := 13) (Ni := some 73) (Nj := some 78) #[true, true, true, true, true, true, true, true, true, true, true, true, true, false, false, false, false, false] #[true, true, true, true, true, true, true, true, false, true, true, true, true, true, false, false, false, false] rfl rfl rfl rfl (by kernel_rfl) (by decide) (by decide) (fun K hK => ?_) (fun K hK => ?_)
            · skip
              refine value_ (w1 := ?_) (v := ?_) (by rfl) rfl ?_ ?_
              rotate_left 2
              · go_simp
                constructor
                · rfl
                · rfl
              refine hK.out _ _ ⟨((Below.cell (below_alloc (Below.refl _ _) _) (show bO < _ from by (first | omega | (have := hbW.size; omega) | (simp [World.drew]; omega)))).trans hHeld.1), ((Below.cell (below_alloc (Below.refl _ _) _) (show gx < _ from by (first | omega | (have := hbW.size; omega) | (simp [World.drew]; omega)))).trans hHeld.2)⟩ (fun hHeld => ?_)
              clear hK K
              refine norm_ (a' := ?_) ?_ ?_
              rotate_left
              · show Act.put _ (some 73) _ = _
                simp only [Act.put, List.setIfInBounds_toArray, List.set_cons_zero, List.set_cons_succ, i64_w, i32_w]
                rfl
              refine one_ (i := 13) (N := some 78) #[true, true, true, true, true, true, true, true, true, true, true, true, true, true, false, false, false, false] rfl rfl (by kernel_rfl) (by decide) (fun K hK => ?_)
              refine value_ (w1 := ?_) (v := ?_) (by rfl) rfl ?_ ?_
              rotate_left 2
              · go_simp
                constructor
                · rfl
                · rfl
              refine hK.out _ _ ⟨((Below.cell (below_alloc (Below.refl _ _) _) (show bO < _ from by (first | omega | (have := hbW.size; omega) | (simp [World.drew]; omega)))).trans hHeld.1), ((Below.cell (below_alloc (Below.refl _ _) _) (show gx < _ from by (first | omega | (have := hbW.size; omega) | (simp [World.drew]; omega)))).trans hHeld.2)⟩ (fun hHeld => ?_)
              clear hK K
              refine norm_ (a' := ?_) ?_ ?_
              rotate_left
              · show Act.put _ (some 78) _ = _
                simp only [Act.put, List.setIfInBounds_toArray, List.set_cons_zero, List.set_cons_succ, i64_w, i32_w]
                rfl
              exact norm_ (by simp only [putAll, Act.put, List.setIfInBounds_toArray, List.set_cons_zero, List.set_cons_succ]) (hCont (W1.heap.size, W1.heap.size + 1) _ ⟨⟨(by (try simp only [hwn, hwa, hwb]); (try dsimp only); repeat (first | exact blk_newAt _ _ _ (by simp [World.drew]) | refine blk_drew ?_ | refine blk_alloc ?_ _)), by ((try dsimp only); omega), (by (try simp only [hwn, hwa, hwb]); (try dsimp only); repeat (first | exact blk_newAt _ _ _ (by simp [World.drew]) | refine blk_drew ?_ | refine blk_alloc ?_ _)), by ((try dsimp only); omega)⟩, (by repeat (first | exact Below.refl _ _ | refine Below.drew ?_ | refine below_alloc ?_ _))⟩)
            · skip
              refine value_ (w1 := ?_) (v := ?_) (by rfl) rfl ?_ ?_
              rotate_left 2
              · go_simp
                constructor
                · rfl
                · rfl
              refine hK.out _ _ ⟨((Below.cell (below_alloc (Below.refl _ _) _) (show bO < _ from by (first | omega | (have := hbW.size; omega) | (simp [World.drew]; omega)))).trans hHeld.1), ((Below.cell (below_alloc (Below.refl _ _) _) (show gx < _ from by (first | omega | (have := hbW.size; omega) | (simp [World.drew]; omega)))).trans hHeld.2)⟩ (fun hHeld => ?_)
              clear hK K
              refine norm_ (a' := ?_) ?_ ?_
              rotate_left
              · show Act.put _ (some 78) _ = _
                simp only [Act.put, List.setIfInBounds_toArray, List.set_cons_zero, List.set_cons_succ, i64_w, i32_w]
                rfl
              refine one_ (i := 8) (N := some 73) #[true, true, true, true, true, true, true, true, true, true, true, true, true, true, false, false, false, false] rfl rfl (by kernel_rfl) (by decide) (fun K hK => ?_)
              refine value_ (w1 := ?_) (v := ?_) (by rfl) rfl ?_ ?_
              rotate_left 2
              · go_simp
                constructor
                · rfl
                · rfl
              refine hK.out _ _ ⟨((Below.cell (below_alloc (Below.refl _ _) _) (show bO < _ from by (first | omega | (have := hbW.size; omega) | (simp [World.drew]; omega)))).trans hHeld.1), ((Below.cell (below_alloc (Below.refl _ _) _) (show gx < _ from by (first | omega | (have := hbW.size; omega) | (simp [World.drew]; omega)))).trans hHeld.2)⟩ (fun hHeld => ?_)
              clear hK K
              refine norm_ (a' := ?_) ?_ ?_
              rotate_left
              · show Act.put _ (some 73) _ = _
                simp only [Act.put, List.setIfInBounds_toArray, List.set_cons_zero, List.set_cons_succ, i64_w, i32_w]
                rfl
              exact norm_ (by simp only [putAll, Act.put, List.setIfInBounds_toArray, List.set_cons_zero, List.set_cons_succ]) (hCont (W1.heap.size + 1, W1.heap.size) _ ⟨⟨(by (try simp only [hwn, hwa, hwb]); (try dsimp only); repeat (first | exact blk_newAt _ _ _ (by simp [World.drew]) | refine blk_drew ?_ | refine blk_alloc ?_ _)), by ((try dsimp only); omega), (by (try simp only [hwn, hwa, hwb]); (try dsimp only); repeat (first | exact blk_newAt _ _ _ (by simp [World.drew]) | refine blk_drew ?_ | refine blk_alloc ?_ _)), by ((try dsimp only); omega)⟩, (by repeat (first | exact Below.refl _ _ | refine Below.drew ?_ | refine below_alloc ?_ _))⟩)
          rintro ⟨g0, g1⟩ w' ⟨⟨hg0, hw0, hg1, hw1⟩, hbW⟩
          dsimp only at *
          have hHeld : w'.cell? ⟨bO, 1, none⟩ = some (.slice A1 R.1.l.length c1) ∧ w'.cell? ⟨gx, 0, none⟩ = some (.int .i64 a) := ⟨(Below.cell hbW (by omega)).trans hn1, (Below.cell hbW (by omega)).trans hxa⟩
          refine norm_ (a' := ?_) ?_ ?_
          rotate_left
          · simp only [putAll, Act.put, List.setIfInBounds_toArray, List.set_cons_zero, List.set_cons_succ]
            rfl
          refine one_ (i := 14) (N := some 79) #[true, true, true, true, true, true, true, true, true, true, true, true, true, true, true, false, false, false] rfl rfl (by kernel_rfl) (by decide) (fun K hK => ?_)
          refine value_ (w1 := ?_) (v := ?_) (by rfl) rfl ?_ ?_
          rotate_left 2
          · go_simp
            constructor
            · rfl
            · rfl
          refine hK.out _ _ ⟨((Below.cell (below_alloc (Below.refl _ _) _) (show bO < _ from by (first | omega | (have := hbW.size; omega) | (simp [World.drew]; omega)))).trans hHeld.1), ((Below.cell (below_alloc (Below.refl _ _) _) (show gx < _ from by (first | omega | (have := hbW.size; omega) | (simp [World.drew]; omega)))).trans hHeld.2)⟩ (fun hHeld => ?_)
          clear hK K
          refine norm_ (a' := ?_) ?_ ?_
          rotate_left
          · show Act.put _ (some 79) _ = _
            simp only [Act.put, List.setIfInBounds_toArray, List.set_cons_zero, List.set_cons_succ, i64_w, i32_w]
            rfl
          refine last_ (i := 15) (N := some 80) #[true, true, true, true, true, true, true, true, true, true, true, true, true, true, true, true, false, false] rfl rfl (by kernel_rfl) (by decide) (fun K hK => ?_)
          have HB2 := Aside0.mk (below_alloc hbW (.cells #[.slice (some ⟨g0, 0, none⟩) 2 2, .slice (some ⟨g1, 0, none⟩) 2 2] 54))
          have hBC : (w'.alloc (.cells #[.slice (some ⟨g0, 0, none⟩) 2 2, .slice (some ⟨g1, 0, none⟩) 2 2] 54)).heap[w'.heap.size]? = some (.cells [.slice (some ⟨g0, 0, none⟩) 2 2, .slice (some ⟨g1, 0, none⟩) 2 2].toArray 54 (0, 0)) := blk_new _ _
          refine LT.append_step (F := fun i => F i ∨ W.heap.size ≤ i) (n0 := w0.heap.size) (by rfl) (.tmp 66) (.tmp 79) rfl (.slice A1 R.1.l.length c1) R.1.l [[-(N : Int), -a], [(N : Int), a]] ⟨w'.heap.size, 0, none⟩ 2 [.slice (some ⟨g0, 0, none⟩) 2 2, .slice (some ⟨g1, 0, none⟩) 2 2] rfl rfl (news_at hBC) (Reps.snoc (Reps.snoc (Reps.none _ _) (RI.blk (ns := [-(N : Int), -a]) (blk_alloc hg0 _) (.inr (Nat.le_trans HUW.out.size hw0)) (by simp)) rfl) (RI.blk (ns := [(N : Int), a]) (blk_alloc hg1 _) (.inr (Nat.le_trans HUW.out.size hw1)) (by simp)) rfl) rfl (by simp [Value.oneCell']) (HLW.out.below HB2.out) (Nat.le_trans HBW2.out.size HB2.out.size) (by omega) ?_
          intro v3 w3 ho3 hg3 hat3
          have HL3 := Aside0.mk ho3
          have HG3 := Aside0.mk ((Upd.of_below (E := Ev (.slice A1 R.1.l.length c1)) HB2.out).grown hg3 (fun r e _ => e))
          have HT3 := Aside0.mk (OwnStep.trans (v1 := .slice A1 R.1.l.length c1) (.inl rfl) hat3 HB2.out.size)
          have hO3 : OutAt w3 bO N (.slice A1 R.1.l.length c1) := (HG3.out.block bO (blk_lt HO2.out) (fun e => HLW.out.ne HO2.out (by decide) e)).trans HO2.out
          have hc3 : w3.cell? ⟨bO, 1, none⟩ = some (.slice A1 R.1.l.length c1) := blk_cell hO3 1
          have hf3 := blk_frozen hO3 1
          obtain ⟨A5, c5, hv5, hq1, hq2⟩ := ho3.reads
          rw [show (R.1.l ++ [[-(N : Int), -a], [(N : Int), a]]).length = R.1.l.length + 2 from List.length_append] at hv5
          subst hv5
          clear hq1 hq2 ho3 hg3 hat3 hO3 hBC
          refine hK.out _ _ ?_
          clear hK K
          refine norm_ (a' := ?_) ?_ ?_
          rotate_left
          · show Act.put _ (some 80) _ = _
            simp only [Act.put, List.setIfInBounds_toArray, List.set_cons_zero, List.set_cons_succ, i64_w, i32_w]
            rfl
          refine pure_ (i := 16) (N := some 81) (v := ?_) (a' := ?_) #[true, true, true, true, true, true, true, true, true, true, true, true, true, true, true, true, true, false] rfl rfl (by kernel_rfl) (fun _ _ _ h => h) (Or.inl ⟨by rfl, ?_⟩) ?_ ?_
          rotate_left
          · intro w'
            go_simp
            with_reducible rfl
          rotate_left
          · simp only [Act.put, List.setIfInBounds_toArray, List.set_cons_zero, List.set_cons_succ, i64_w, i32_w]
            rfl
          refine last_ (i := 17) (N := none) #[true, true, true, true, true, true, true, true, true, true, true, true, true, true, true, true, true, true] rfl rfl (by kernel_rfl) (by decide) (fun K hK => ?_)
          refine skip_ (w1 := ?_) (by rfl) rfl ?_ ?_
          rotate_left
          · go_simp
            rfl
          refine hK.out _ _ ?_
          clear hK K
          refine done_ (by kernel_rfl) ?_
          go_wp2_with fail
          go_ret
          exact lay_end (M := cls 6 N [a]) HR2.out HUW.out HSW.out HO2.out HLW.out HG3.out.size HG3.out HT3.out HL3.out
end Go.Proofs.YtbfgoopomfenjaaDoor
namespace Go.Proofs.YtbfgoopomfenjaaDoor
open Go.RowKit Go.Proofs.YtbfgoopomfenjaaDoorW.PrintWords Go.Proofs.YtbfgoopomfenjaaDoorW.PrintLast Go.Proofs.YtbfgoopomfenjaaDoor.PTseitinValues
set_option linter.unusedVariables false
set_option linter.unusedSimpArgs false
attribute [local go_sem] World.cell?_alloc_lt

set_option maxRecDepth 100000 in
set_option maxHeartbeats 40000000 in
theorem lay_node_b (w0 : World) (at_ : List S41) (bA bL bO : Nat) (t : S41) (hp : isPart t.f0 = true) (hop : t.f0 = 7) (ih : ∀ (k : Nat) (x : S41), t.f4[k]? = some x → PL w0 at_ bA bL bO x) : PL w0 at_ bA bL bO t := by
  intro A c B d A0 c0 Aa ca st F W hP hB hR hAT hbA hbL hO hL hw hn hl ha
  have HOP := Aside0.mk hop
  clear hop
  have HR := Aside0.mk (layC_part true at_ t st hp)
  obtain ⟨⟨h1, h2⟩, hsub, hok⟩ := cparts_ok hR
  have HOK := Aside0.mk hok
  have HIH := Aside0.mk ih
  have HSUB := Aside0.mk hsub
  have hk2 : t.f4.length ≤ 2 := by have : csN t.f0 ≤ 2 := by (unfold csN; (repeat' split) <;> omega)
                                   omega
  have HSZ : Aside0 (st.n + (t.f4.map csize).sum ≤ 999999 ∧ st.l.length + 4 * (t.f4.map csize).sum ≤ 99999996) := ⟨by rw [csize_eq, csizeL_sum] at hn hl; omega⟩
  have HHA := Aside0.mk ha
  have hlb := hP.C2.2.1
  have HNA : Aside0 (∀ i, Ev (.slice Aa at_.length ca) i → ¬ EvB bO (.slice A0 st.l.length c0) i) := ⟨fun i hi e => e.elim (fun e => by
      subst e
      exact OwnRow.ne_block hAT hO (by decide) hi.symm) (fun e => by
      obtain ⟨_, o1, _⟩ := hAT; obtain ⟨_, o2, _⟩ := hL
      exact own_types o1 o2 (by decide) i hi e)⟩
  have HNbA : Aside0 (¬ EvB bO (.slice A0 st.l.length c0) bA) := ⟨fun e => e.elim (fun e => by subst e; have := hbA.symm.trans hO; injection this with this; injection this with _ this; exact absurd this (by decide)) (fun e => hL.ne hbA (by decide) e)⟩
  have HNbL : Aside0 (¬ EvB bO (.slice A0 st.l.length c0) bL) := ⟨fun e => e.elim (fun e => by subst e; have := hbL.symm.trans hO; injection this with this; injection this with _ this; exact absurd this (by decide)) (fun e => hL.ne hbL (by decide) e)⟩
  have HNB : Aside0 (∀ i, EvB bO (.slice A0 st.l.length c0) i → w0.heap.size ≤ i) := ⟨fun i e => e.elim (fun e => by omega) (fun e => hL.base i e)⟩
  have HNX : Aside0 (∀ i, EvB bO (.slice A0 st.l.length c0) i → i < W.heap.size) := ⟨fun i e => e.elim (fun e => by subst e; exact blk_lt hO) (fun e => hL.lt i e)⟩
  have hBW : Below W.heap.size W (W.alloc (.cells (c41 t A c B d) 41)) := below_alloc (Below.refl _ _) _
  have X : T41 (W.alloc (.cells (c41 t A c B d) 41)) ⟨W.heap.size, 0, none⟩ t A c B d := T41.mk_box (w := W) (blk_new _ _) (hP.below hB) hBW
  have HP := Aside0.mk hP
  have HB := Aside0.mk (hB.trans (hBW.mono hB.size))
  have HAT := Aside0.mk (hAT.upd (Upd.of_below (E := fun _ => False) hBW) (fun _ _ h => h))
  have HbA := Aside0.mk (hbA.kept (grown_of_below hBW none) (by simp))
  have HbL := Aside0.mk (hbL.kept (grown_of_below hBW none) (by simp))
  have HO := Aside0.mk (show OutAt (W.alloc (.cells (c41 t A c B d) 41)) bO st.n (.slice A0 st.l.length c0) from (hBW.block bO (blk_lt hO)).trans hO)
  have HL := Aside0.mk (hL.below hBW)
  have HL0 := Aside0.mk hL
  have HBW := Aside0.mk hBW
  clear hBW hP hB hAT hbA hbL hO hL hR hsub hok ih ha hn hl
  go_enter Tryd.func29, Tryd.ntmps29
  go_upto_region 1 with fail
  generalize hW : W.alloc (.cells (c41 t A c B d) 41) = W0 at *
  clear hW
  obtain ⟨k0, k1, k2, k3, k4, kl0, kln⟩ := X.box
  go_wp2_with (first
    | (go_at_call 30; refine (ts_own t A c B d _ h1 h2).mono ?_; rintro e w1 ⟨rfl, hb⟩; have X1 := X.below hb; obtain ⟨m0, m1, m2, m3, m4, ml0, mln⟩ := X1.box; have HbA1 := Aside0.mk (HbA.out.kept (grown_of_below hb none) (by simp)); have HbL1 := Aside0.mk (HbL.out.kept (grown_of_below hb none) (by simp)); have HAT1 := Aside0.mk (HAT.out.upd (Upd.of_below (E := fun _ => False) hb) (fun _ _ h => h)); have HB1 := Aside0.mk (HB.out.trans (hb.mono HB.out.size)); have HBW1 := Aside0.mk (below_step HBW.out hb); have HO1 := Aside0.mk (show OutAt w1 bO st.n (.slice A0 st.l.length c0) from (hb.block bO (blk_lt HO.out)).trans HO.out); have HL1 := Aside0.mk (HL.out.below hb); clear hb; rw [hp]))
  clear k0 k1 k2 k3 k4 kl0 kln m0 m1 m2 m3 m4 ml0 mln X HbA HbL HAT HB HO HL
  have HX1 := Aside0.mk X1
  clear X1
  go_loopw [6, 8, 20] (fun v _ i wr => LayRel at_ t.f4 st w0 w1 bO F (.slice A0 st.l.length c0) v i wr) (fun _ _ i _ => t.f4.length - (intOf i).toNat)
  case atStart =>
    exact LayRel.mk 0 none 0 A0 c0 (st, []) (by rw [List.take_zero, layL]) (Nat.zero_le _) rfl rfl (own_nil _ _ _ _) HO1.out (HL1.out.weaken (fun i hi hlt => ⟨.inl hi, fun e => by cases e⟩)) (Upd.refl _ _) (.inl rfl)
  case round =>
    obtain ⟨k, Ax, cx, A1, c1, hk, rfl, rfl, HX, HO, HL, HU, HS⟩ := hrel
    have HBk := Aside0.mk (HB1.out.trans (HU.out.below HB1.out.size HNB.out))
    by_cases hlt : k < t.f4.length
    · have hltb : decide (k < t.f4.length) = true := decide_eq_true hlt
      obtain ⟨x, ad, A3, c3, B3, d3, hx, rfl, Z0⟩ := at41 HP.out.C2 k hlt
      have Z := Z0.below HBk.out
      obtain ⟨z0, z1, z2, z3, z4, zl0, zln⟩ := Z.cells
      have HE := Aside0.mk (layL_take true at_ hx st [])
      have hnl := layL_nl true at_ t.f4 st k
      have HQ1 : Aside0 ((layL true at_ (t.f4.take k) st []).1.n + csize x ≤ 1000000 ∧ (layL true at_ (t.f4.take k) st []).1.l.length + 4 * csize x ≤ 100000000) := ⟨by
        have h2 := sumTo_step csize hx
        have h3 := sumTo_le csize t.f4 (k + 1)
        have := HSZ.out
        omega⟩
      have HV := Aside0.mk (layC_val true at_ x (layL true at_ (t.f4.take k) st []).1 HHA.out HQ1.out.1)
      have HXL : Aside0 ((layL true at_ (t.f4.take k) st []).2.length = k) := ⟨by rw [layL_len2, List.length_take]; simp; omega⟩
      have hWB : Below wr.heap.size wr (wr.alloc (.cells #[.int .i64 x.f0, .string x.f1, .string x.f2, .slice A3 x.f3.length c3, .slice B3 x.f4.length d3] 41)) := below_alloc (Below.refl _ _) _
      have HbL2 := Aside0.mk (HU.out.boxed HbL1.out HNbL.out)
      have HC := Aside0.mk (HIH.out k x hx A3 c3 B3 d3 A1 c1 Aa ca (layL true at_ (t.f4.take k) st []).1 _ _ Z0.P (HBk.out.trans (hWB.mono HBk.out.size)) (HOK.out k x hx) ((HAT1.out.upd HU.out HNA.out).upd (Upd.of_below (E := fun _ => False) hWB) (fun _ _ h => h)) ((HU.out.boxed HbA1.out HNbA.out).kept (grown_of_below hWB none) (by simp)) (HbL2.out.kept (grown_of_below hWB none) (by simp)) (show OutAt _ bO _ _ from (hWB.block bO (blk_lt HO.out)).trans HO.out) (HL.out.below hWB) hw HQ1.out.1 HQ1.out.2 HHA.out)
      have HWB := Aside0.mk hWB
      clear hx Z0 hWB hnl
      have f0 := HbL2.out.cell
      have fl := HbL2.out.lt
      have fln : ∀ q, bL < wr.heap.size + q := fun q => by omega
      generalize hst : layL true at_ (t.f4.take k) st [] = R at *
      generalize hrr : layC true at_ x R.1 = S at *
      have hv0 := HV.out.1
      have hv1 := HV.out.2
      go_wp2_with (first
        | (go_at_call 29; refine HC.out.mono ?_; rintro e w2 ⟨rfl, A2, c2, ho2, hl2, hu2, hs2⟩; have HO2 := Aside0.mk ho2; have HL2 := Aside0.mk hl2; have HU2 := Aside0.mk hu2; have HS2 := Aside0.mk hs2; clear ho2 hl2 hu2 hs2)
        | (have hx1 : w2.ownsRow w1.heap.size 3 1 (.slice Ax k cx) R.2.length (nums .i64 R.2) := (by
             rw [HXL.out]
             exact own_move (own_move HX.out (fun i hi => HWB.out.block i (own_lt HX.out i hi))) (fun i hi => HU2.out.block i (Nat.lt_of_lt_of_le (own_lt HX.out i hi) HWB.out.size) (fun e => e.elim (fun e => own_ne HX.out HO.out (by decide) (by rw [← e]; exact hi.symm)) (fun e => by
               obtain ⟨_, o1, _⟩ := HL.out
               exact own_types HX.out o1 (by decide) i hi e))))
           have HX1_ := Aside0.mk hx1
           clear hx1
           at_builtin
           refine print_append_num (w0 := w2) w1.heap.size rfl (.tmp 24) (.tmp 28) 54 3 .i64 8 rfl Tryd.underlying54 info3 (by omega) (.slice Ax k cx) R.2 S.2 rfl rfl HX1_.out (Below.refl _ _) (Nat.le_trans HU.out.size (Nat.le_trans HWB.out.size HU2.out.size)) (by have := HXL.out; omega) ?_
           intro v3 w3 ho3 hb3 hg3 hat3
           have HX3 := Aside0.mk ho3
           have HG3 := Aside0.mk hg3
           have HT3 := Aside0.mk hat3
           clear ho3 hb3 hg3 hat3))
      have hlen : (R.2 ++ [S.2]).length = k + 1 := by rw [List.length_append, HXL.out]; rfl
      have hx3 := HX3.out
      rw [hlen] at hx3
      obtain ⟨A4, c4, rfl⟩ := own_slice hx3
      have HXo := HX1_.out
      obtain ⟨l1, l2⟩ := lay_next (n0 := w0.heap.size) (N := w1.heap.size) (M := (wr.alloc (.cells #[.int .i64 x.f0, .string x.f1, .string x.f2, .slice A3 x.f3.length c3, .slice B3 x.f4.length d3] 41)).heap.size) (bO := bO) (kx := 0) HX1_.out (fun i hi => Nat.lt_of_lt_of_le (own_lt HX.out i hi) HWB.out.size) (Nat.le_trans HU.out.size HWB.out.size) HU2.out.size HL2.out HO2.out HG3.out HT3.out
      refine ⟨?_, by simp [intOf]; omega⟩
      exact LayRel.mk (k + 1) A4 c4 A2 c2 (S.1, R.2 ++ [S.2]) (by rw [HE.out]) (by omega) (by go_num) (by first | rfl | go_num) hx3 l2 l1
        (((HU.out.trans (Upd.of_below HWB.out)).ownB HS.out HU2.out).grown HG3.out (fun r e hlt => absurd (own_base HX1_.out r e) (by omega)))
        (HS.out.trans HS2.out (Nat.le_trans HU.out.size HWB.out.size))
    · have hltb : decide (k < t.f4.length) = false := decide_eq_false hlt
      have hkk : k = t.f4.length := by omega
      have htk : t.f4.take k = t.f4 := List.take_of_length_le (by omega)
      have hnl := layL_nl true at_ t.f4 st k
      have hsz := sumTo_le csize t.f4 k
      have HXL : Aside0 ((layL true at_ t.f4 st []).2.length = t.f4.length) := ⟨by rw [layL_len2]; simp⟩
      rw [htk] at hnl HX HO HL HS
      have hRn : (layL true at_ t.f4 st []).1.n ≤ 999999 := by have := HSZ.out; omega
      have hRl : (layL true at_ t.f4 st []).1.l.length ≤ 99999996 := by have := HSZ.out; omega
      clear hnl hsz
      generalize hst : layL true at_ t.f4 st [] = R at *
      subst hkk
      have o0 : wr.cell? ⟨bO, 0, none⟩ = some (.int .i64 R.1.n) := blk_cell HO.out 0
      have of0 := blk_frozen HO.out 0
      go_upto_region 10 with fail
      have hUs : Upd (fun i => i = bO) wr (wr.setCell ⟨bO, 0, none⟩ (.int .i64 ((R.1.n : Int) + 1))) := (Upd.refl (fun i => i = bO) _).setCell (p := ⟨bO, 0, none⟩) rfl _
      have HO2 : Aside0 (OutAt (wr.setCell ⟨bO, 0, none⟩ (.int .i64 ((R.1.n : Int) + 1))) bO (R.1.n + 1) (.slice A1 R.1.l.length c1)) := ⟨blk_put (cs := #[.int .i64 R.1.n, .slice A1 R.1.l.length c1]) HO.out 0 _ rfl⟩
      have HL2 := Aside0.mk (HL.out.upd hUs (fun i hi e => by subst e; exact HL.out.ne HO.out (by decide) hi) (fun i cur hf hc e => by subst e; have := hc.symm.trans HO.out; injection this with this; injection this with _ this; exact absurd this (by decide)))
      have HX2 := Aside0.mk (own_setCell HX.out (p := ⟨bO, 0, none⟩) (own_ne HX.out HO.out (by decide)) (.int .i64 ((R.1.n : Int) + 1)))
      have HU2 := Aside0.mk (HU.out.setCell (p := ⟨bO, 0, none⟩) (.inl rfl) (.int .i64 ((R.1.n : Int) + 1)))
      clear hUs HO HL HX HU o0 of0
      generalize hW : wr.setCell ⟨bO, 0, none⟩ (.int .i64 ((R.1.n : Int) + 1)) = W1 at *
      clear hW
      have HUW := Aside0.mk ((Upd.of_below (E := EvB bO (.slice A0 st.l.length c0)) HBW1.out).trans HU2.out)
      have HSW := Aside0.mk (OwnStep.trans (n := W.heap.size) (v1 := .slice A0 st.l.length c0) (.inl rfl) HS.out HBW1.out.size)
      have HLW := Aside0.mk (HL2.out.weaken (F' := fun i => F i ∨ W.heap.size ≤ i) (fun i hi _ => hi.1.elim .inl (fun h => .inr (Nat.le_trans HBW1.out.size h))))
      have hn0 : W1.cell? ⟨bO, 0, none⟩ = some (.int .i64 (R.1.n + 1 : Nat)) := blk_cell HO2.out 0
      have hn1 : W1.cell? ⟨bO, 1, none⟩ = some (.slice A1 R.1.l.length c1) := blk_cell HO2.out 1
      have hf1 := blk_frozen HO2.out 1
      have hop0 : W1.cell? ⟨W.heap.size, 0, none⟩ = some (.int .i64 t.f0) := (World.cell?_of_block (w := w1) (a := ⟨W.heap.size, 0, none⟩) (HU2.out.block W.heap.size (HX1.out.lt) (fun e => Nat.lt_irrefl _ (HNX.out _ e)))).trans HX1.out.c0
      have hbO : bO < W1.heap.size := blk_lt HO2.out
      have hbOn : ∀ q, bO < W1.heap.size + q := fun q => by omega
      generalize hvn : R.1.n + 1 = N at *
      have hN : (N : Int) ≤ 1000000 := by omega
      have hN0 : (0 : Int) ≤ (N : Int) := Int.natCast_nonneg _
      by_cases hlong : 4096 < R.1.l.length
      · have hlb1 : decide ((4096 : Int) < (R.1.l.length : Int)) = true := decide_eq_true (by omega)
        have hlb2 : decide (4096 < R.1.l.length) = true := decide_eq_true hlong
        have HR2 : Aside0 (layC true at_ t st = (⟨N, R.1.l⟩, (N : Int))) := ⟨by rw [HR.out, if_pos (by simp; exact hlong)]⟩
        go_wp2_with fail
        go_ret
        rw [HR2.out]
        exact ⟨rfl, A1, c1, HO2.out, HLW.out, HUW.out, HSW.out⟩
      · have hlb1 : decide ((4096 : Int) < (R.1.l.length : Int)) = false := decide_eq_false (by omega)
        have hlb2 : decide (4096 < R.1.l.length) = false := decide_eq_false hlong
        have HR2 : Aside0 (layC true at_ t st = (⟨N, R.1.l ++ cls t.f0 N R.2⟩, (N : Int))) := ⟨by rw [HR.out, if_neg (by simp; omega)]⟩
        have HBW2 := Aside0.mk (HB1.out.trans (HU2.out.below HB1.out.size HNB.out))
        have hop := HOP.out
        · as_aux_lemma =>
          rw [hop] at hop0 HR2
          have h4 : t.f4.length = 2 := by have h5 := HSUB.out; rw [hop] at h5; have e : csN 7 = 2 := rfl; omega
          have hvs := layL_val true at_ t.f4 st t.f4.length HHA.out (by have := HSZ.out; have := sumTo_le csize t.f4 t.f4.length; omega)
          rw [List.take_length, hst] at hvs
          rw [h4] at HX2
          obtain ⟨gx, rfl, hgx, hxs⟩ := own_cells HX2.out (by omega)
          have hl2 : R.2.length = 2 := HXL.out.trans h4
          obtain ⟨a, b, hRab⟩ : ∃ a b, R.2 = [a, b] := len_two hl2
          have hxa := hxs 0 a (by rw [hRab]; rfl)
          have hxb := hxs 1 b (by rw [hRab]; rfl)
          obtain ⟨ha0, ha1⟩ := hvs a (by rw [hRab]; simp)
          obtain ⟨hb0, hb1⟩ := hvs b (by rw [hRab]; simp)
          have hwn : wrap64 (-(N : Int)) = -(N : Int) := wrap64_id (by omega) (by omega)
          have hwa : wrap64 (-a) = -a := wrap64_id (by omega) (by omega)
          have hwb : wrap64 (-b) = -b := wrap64_id (by omega) (by omega)
          rw [hRab] at HR2
          clear hxs hvs HX2
          rw [h4]
          go_upto_region 21 with fail
          refine start_ (n := 28) (S := fun w' => w'.cell? ⟨bO, 1, none⟩ = some (.slice A1 R.1.l.length c1) ∧ w'.cell? ⟨gx, 0, none⟩ = some (.int .i64 a) ∧ w'.cell? ⟨gx, 1, none⟩ = some (.int .i64 b)) (ds := [25, 27]) #[false, false, false, false, false, false, false, false, false, false, false, false, false, false, false, false, false, false, false, false, false, false, false, false, false, false, false, false] (by kernel_rfl) rfl rfl ⟨(show W1.drew.cell? _ = _ from hn1), (show W1.drew.cell? _ = _ from hxa), (show W1.drew.cell? _ = _ from hxb)⟩ (fun hHeld => ?_)
          refine pure_ (i := 0) (N := some 84) (v := ?_) (a' := ?_) #[true, false, false, false, false, false, false, false, false, false, false, false, false, false, false, false, false, false, false, false, false, false, false, false, false, false, false, false] rfl rfl (by kernel_rfl) (fun _ _ _ h => h) (Or.inl ⟨by rfl, ?_⟩) ?_ ?_
          rotate_left
          · intro w'
            go_simp
            with_reducible rfl
          rotate_left
          · simp only [Act.put, List.setIfInBounds_toArray, List.set_cons_zero, List.set_cons_succ, i64_w, i32_w]
            rfl
          refine pure_ (i := 2) (N := some 86) (v := ?_) (a' := ?_) #[true, false, true, false, false, false, false, false, false, false, false, false, false, false, false, false, false, false, false, false, false, false, false, false, false, false, false, false] rfl rfl (by kernel_rfl) (fun _ _ _ h => h) (Or.inl ⟨by rfl, ?_⟩) ?_ ?_
          rotate_left
          · intro w'
            go_simp
            with_reducible rfl
          rotate_left
          · simp only [Act.put, List.setIfInBounds_toArray, List.set_cons_zero, List.set_cons_succ, i64_w, i32_w]
            rfl
          refine pure_ (i := 3) (N := some 87) (v := ?_) (a' := ?_) #[true, false, true, true, false, false, false, false, false, false, false, false, false, false, false, false, false, false, false, false, false, false, false, false, false, false, false, false] rfl rfl (by kernel_rfl) (fun _ _ _ h => h) (Or.inl ⟨by rfl, ?_⟩) ?_ ?_
          rotate_left
          · intro w'
            go_simp
            with_reducible rfl
          rotate_left
          · simp only [Act.put, List.setIfInBounds_toArray, List.set_cons_zero, List.set_cons_succ, i64_w, i32_w]
            rfl
          refine pure_ (i := 4) (N := some 88) (v := ?_) (a' := ?_) #[true, false, true, true, true, false, false, false, false, false, false, false, false, false, false, false, false, false, false, false, false, false, false, false, false, false, false, false] rfl rfl (by kernel_rfl) (fun _ _ _ h => h) (Or.inl ⟨by rfl, ?_⟩) ?_ ?_
          rotate_left
          · intro w'
            go_simp
            with_reducible rfl
          rotate_left
          · simp only [Act.put, List.setIfInBounds_toArray, List.set_cons_zero, List.set_cons_succ, i64_w, i32_w]
            rfl
          refine pure_ (i := 5) (N := some 89) (v := ?_) (a' := ?_) #[true, false, true, true, true, true, false, false, false, false, false, false, false, false, false, false, false, false, false, false, false, false, false, false, false, false, false, false] rfl rfl (by kernel_rfl) (fun _ _ _ h => h) (Or.inl ⟨by rfl, ?_⟩) ?_ ?_
          rotate_left
          · intro w'
            go_simp
            with_reducible rfl
          rotate_left
          · simp only [Act.put, List.setIfInBounds_toArray, List.set_cons_zero, List.set_cons_succ, i64_w, i32_w]
            rfl
          refine pure_ (i := 8) (N := some 92) (v := ?_) (a' := ?_) #[true, false, true, true, true, true, false, false, true, false, false, false, false, false, false, false, false, false, false, false, false, false, false, false, false, false, false, false] rfl rfl (by kernel_rfl) (fun _ _ _ h => h) (Or.inl ⟨by rfl, ?_⟩) ?_ ?_
          rotate_left
          · intro w'
            go_simp
            with_reducible rfl
          rotate_left
          · simp only [Act.put, List.setIfInBounds_toArray, List.set_cons_zero, List.set_cons_succ, i64_w, i32_w]
            rfl
          refine pure_ (i := 9) (N := some 93) (v := ?_) (a' := ?_) #[true, false, true, true, true, true, false, false, true, true, false, false, false, false, false, false, false, false, false, false, false, false, false, false, false, false, false, false] rfl rfl (by kernel_rfl) (fun _ _ _ h => h) (Or.inl ⟨by rfl, ?_⟩) ?_ ?_
          rotate_left
          · intro w'
            go_simp
            with_reducible rfl
          rotate_left
          · simp only [Act.put, List.setIfInBounds_toArray, List.set_cons_zero, List.set_cons_succ, i64_w, i32_w]
            rfl
          refine pure_ (i := 10) (N := some 94) (v := ?_) (a' := ?_) #[true, false, true, true, true, true, false, false, true, true, true, false, false, false, false, false, false, false, false, false, false, false, false, false, false, false, false, false] rfl rfl (by kernel_rfl) (fun _ _ _ h => h) (Or.inl ⟨by rfl, ?_⟩) ?_ ?_
          rotate_left
          · intro w'
            go_simp
            with_reducible rfl
          rotate_left
          · simp only [Act.put, List.setIfInBounds_toArray, List.set_cons_zero, List.set_cons_succ, i64_w, i32_w]
            rfl
          refine pure_ (i := 11) (N := some 95) (v := ?_) (a' := ?_) #[true, false, true, true, true, true, false, false, true, true, true, true, false, false, false, false, false, false, false, false, false, false, false, false, false, false, false, false] rfl rfl (by kernel_rfl) (fun _ _ _ h => h) (Or.inl ⟨by rfl, ?_⟩) ?_ ?_
          rotate_left
          · intro w'
            go_simp
            with_reducible rfl
          rotate_left
          · simp only [Act.put, List.setIfInBounds_toArray, List.set_cons_zero, List.set_cons_succ, i64_w, i32_w]
            rfl
          refine pure_ (i := 14) (N := some 98) (v := ?_) (a' := ?_) #[true, false, true, true, true, true, false, false, true, true, true, true, false, false, true, false, false, false, false, false, false, false, false, false, false, false, false, false] rfl rfl (by kernel_rfl) (fun _ _ _ h => h) (Or.inl ⟨by rfl, ?_⟩) ?_ ?_
          rotate_left
          · intro w'
            go_simp
            with_reducible rfl
          rotate_left
          · simp only [Act.put, List.setIfInBounds_toArray, List.set_cons_zero, List.set_cons_succ, i64_w, i32_w]
            rfl
          refine pure_ (i := 15) (N := some 99) (v := ?_) (a' := ?_) #[true, false, true, true, true, true, false, false, true, true, true, true, false, false, true, true, false, false, false, false, false, false, false, false, false, false, false, false] rfl rfl (by kernel_rfl) (fun _ _ _ h => h) (Or.inl ⟨by rfl, ?_⟩) ?_ ?_
          rotate_left
          · intro w'
            go_simp
            with_reducible rfl
          rotate_left
          · simp only [Act.put, List.setIfInBounds_toArray, List.set_cons_zero, List.set_cons_succ, i64_w, i32_w]
            rfl
          refine pure_ (i := 16) (N := some 100) (v := ?_) (a' := ?_) #[true, false, true, true, true, true, false, false, true, true, true, true, false, false, true, true, true, false, false, false, false, false, false, false, false, false, false, false] rfl rfl (by kernel_rfl) (fun _ _ _ h => h) (Or.inl ⟨by rfl, ?_⟩) ?_ ?_
          rotate_left
          · intro w'
            go_simp
            with_reducible rfl
          rotate_left
          · simp only [Act.put, List.setIfInBounds_toArray, List.set_cons_zero, List.set_cons_succ, i64_w, i32_w]
            rfl
          refine pure_ (i := 19) (N := some 103) (v := ?_) (a' := ?_) #[true, false, true, true, true, true, false, false, true, true, true, true, false, false, true, true, true, false, false, true, false, false, false, false, false, false, false, false] rfl rfl (by kernel_rfl) (fun _ _ _ h => h) (Or.inl ⟨by rfl, ?_⟩) ?_ ?_
          rotate_left
          · intro w'
            go_simp
            with_reducible rfl
          rotate_left
          · simp only [Act.put, List.setIfInBounds_toArray, List.set_cons_zero, List.set_cons_succ, i64_w, i32_w]
            rfl
          refine pure_ (i := 20) (N := some 104) (v := ?_) (a' := ?_) #[true, false, true, true, true, true, false, false, true, true, true, true, false, false, true, true, true, false, false, true, true, false, false, false, false, false, false, false] rfl rfl (by kernel_rfl) (fun _ _ _ h => h) (Or.inl ⟨by rfl, ?_⟩) ?_ ?_
          rotate_left
          · intro w'
            go_simp
            with_reducible rfl
          rotate_left
          · simp only [Act.put, List.setIfInBounds_toArray, List.set_cons_zero, List.set_cons_succ, i64_w, i32_w]
            rfl
          refine take_ (i := 1) (N := some 85) (v := ?_) (a' := ?_) #[true, true, true, true, true, true, false, false, true, true, true, true, false, false, true, true, true, false, false, true, true, false, false, false, false, false, false, false] rfl rfl (by kernel_rfl) (fun _ _ _ h => h) (Or.inl ⟨by rfl, ?_⟩) hHeld ?_ ?_
          rotate_left
          · rintro w' ⟨s0, s1, s2⟩
            go_simp
            with_reducible rfl
          rotate_left
          · simp only [Act.put, List.setIfInBounds_toArray, List.set_cons_zero, List.set_cons_succ, i64_w, i32_w]
            rfl
          refine take_ (i := 6) (N := some 90) (v := ?_) (a' := ?_) #[true, true, true, true, true, true, true, false, true, true, true, true, false, false, true, true, true, false, false, true, true, false, false, false, false, false, false, false] rfl rfl (by kernel_rfl) (fun _ _ _ h => h) (Or.inl ⟨by rfl, ?_⟩) hHeld ?_ ?_
          rotate_left
          · rintro w' ⟨s0, s1, s2⟩
            go_simp
            with_reducible rfl
          rotate_left
          · simp only [Act.put, List.setIfInBounds_toArray, List.set_cons_zero, List.set_cons_succ, i64_w, i32_w]
            rfl
          refine take_ (i := 12) (N := some 96) (v := ?_) (a' := ?_) #[true, true, true, true, true, true, true, false, true, true, true, true, true, false, true, true, true, false, false, true, true, false, false, false, false, false, false, false] rfl rfl (by kernel_rfl) (fun _ _ _ h => h) (Or.inl ⟨by rfl, ?_⟩) hHeld ?_ ?_
          rotate_left
          · rintro w' ⟨s0, s1, s2⟩
            go_simp
            with_reducible rfl
          rotate_left
          · simp only [Act.put, List.setIfInBounds_toArray, List.set_cons_zero, List.set_cons_succ, i64_w, i32_w]
            rfl
          refine take_ (i := 17) (N := some 101) (v := ?_) (a' := ?_) #[true, true, true, true, true, true, true, false, true, true, true, true, true, false, true, true, true, true, false, true, true, false, false, false, false, false, false, false] rfl rfl (by kernel_rfl) (fun _ _ _ h => h) (Or.inl ⟨by rfl, ?_⟩) hHeld ?_ ?_
          rotate_left
          · rintro w' ⟨s0, s1, s2⟩
            go_simp
            with_reducible rfl
          rotate_left
          · simp only [Act.put, List.setIfInBounds_toArray, List.set_cons_zero, List.set_cons_succ, i64_w, i32_w]
            rfl
          refine pure_ (i := 18) (N := some 102) (v := ?_) (a' := ?_) #[true, true, true, true, true, true, true, false, true, true, true, true, true, false, true, true, true, true, true, true, true, false, false, false, false, false, false, false] rfl rfl (by kernel_rfl) (fun _ _ _ h => h) (Or.inl ⟨by rfl, ?_⟩) ?_ ?_
          rotate_left
          · intro w'
            go_simp
            with_reducible rfl
          rotate_left
          · simp only [Act.put, List.setIfInBounds_toArray, List.set_cons_zero, List.set_cons_succ, i64_w, i32_w]
            rfl
          refine take_ (i := 21) (N := some 105) (v := ?_) (a' := ?_) #[true, true, true, true, true, true, true, false, true, true, true, true, true, false, true, true, true, true, true, true, true, true, false, false, false, false, false, false] rfl rfl (by kernel_rfl) (fun _ _ _ h => h) (Or.inl ⟨by rfl, ?_⟩) hHeld ?_ ?_
          rotate_left
          · rintro w' ⟨s0, s1, s2⟩
            go_simp
            with_reducible rfl
          rotate_left
          · simp only [Act.put, List.setIfInBounds_toArray, List.set_cons_zero, List.set_cons_succ, i64_w, i32_w]
            rfl
          refine pure_ (i := 22) (N := some 106) (v := ?_) (a' := ?_) #[true, true, true, true, true, true, true, false, true, true, true, true, true, false, true, true, true, true, true, true, true, true, true, false, false, false, false, false] rfl rfl (by kernel_rfl) (fun _ _ _ h => h) (Or.inl ⟨by rfl, ?_⟩) ?_ ?_
          rotate_left
          · intro w'
            go_simp
            with_reducible rfl
          rotate_left
          · simp only [Act.put, List.setIfInBounds_toArray, List.set_cons_zero, List.set_cons_succ, i64_w, i32_w]
            rfl
          refine join_ (σ := Nat × Nat × Nat) 4 #[true, true, true, true, true, true, true, true, true, true, true, true, true, true, true, true, true, true, true, true, true, true, true, true, false, false, false, false] (fun s => [(91, .slice (some ⟨s.1, 0, none⟩) 2 2), (97, .slice (some ⟨s.2.1, 0, none⟩) 2 2), (107, .slice (some ⟨s.2.2, 0, none⟩) 3 3)]) (fun s w' => (w'.heap[s.1]? = some (.cells #[.int .i64 (-(N : Int)), .int .i64 (a)] 3 (0, 0)) ∧ W1.heap.size ≤ s.1 ∧ w'.heap[s.2.1]? = some (.cells #[.int .i64 (-(N : Int)), .int .i64 (b)] 3 (0, 0)) ∧ W1.heap.size ≤ s.2.1 ∧ w'.heap[s.2.2]? = some (.cells #[.int .i64 ((N : Int)), .int .i64 (-a), .int .i64 (-b)] 3 (0, 0)) ∧ W1.heap.size ≤ s.2.2) ∧ Below W1.heap.size W1 w') ?_ ?_
          rotate_left
          · intro hCont
            refine three_ (i := 7) (j := 13) (k := 23) (Ni := some 91) (Nj := some 97) (Nk := some 107) #[true, true, true, true, true, true, true, true, true, true, true, true, true, false, true, true, true, true, true, true, true, true, true, false, false, false, false, false] #[true, true, true, true, true, true, true, false, true, true, true, true, true, true, true, true, true, true, true, true, true, true, true, false, false, false, false, false] #[true, true, true, true, true, true, true, false, true, true, true, true, true, false, true, true, true, true, true, true, true, true, true, true, false, false, false, false] rfl rfl rfl rfl rfl rfl (by kernel_rfl) (by decide) (by decide) (by decide) (fun K hK => ?_) (fun K hK => ?_) (fun K hK => ?_)
            · skip
              refine value_ (w1 := ?_) (v := ?_) (by rfl) rfl ?_ ?_
              rotate_left 2
              · go_simp
                constructor
                · rfl
                · rfl
              refine hK.out _ _ ⟨((Below.cell (below_alloc (Below.refl _ _) _) (show bO < _ from by (first | omega | (have := hbW.size; omega) | (simp [World.drew]; omega)))).trans hHeld.1), ((Below.cell (below_alloc (Below.refl _ _) _) (show gx < _ from by (first | omega | (have := hbW.size; omega) | (simp [World.drew]; omega)))).trans hHeld.2.1), ((Below.cell (below_alloc (Below.refl _ _) _) (show gx < _ from by (first | omega | (have := hbW.size; omega) | (simp [World.drew]; omega)))).trans hHeld.2.2)⟩ (fun hHeld => ?_)
              clear hK K
              refine norm_ (a' := ?_) ?_ ?_
              rotate_left
              · show Act.put _ (some 91) _ = _
                simp only [Act.put, List.setIfInBounds_toArray, List.set_cons_zero, List.set_cons_succ, i64_w, i32_w]
                rfl
              refine two_ (i := 13) (j := 23) (Ni := some 97) (Nj := some 107) #[true, true, true, true, true, true, true, true, true, true, true, true, true, true, true, true, true, true, true, true, true, true, true, false, false, false, false, false] #[true, true, true, true, true, true, true, true, true, true, true, true, true, false, true, true, true, true, true, true, true, true, true, true, false, false, false, false] rfl rfl rfl rfl (by kernel_rfl) (by decide) (by decide) (fun K hK => ?_) (fun K hK => ?_)
              · skip
                refine value_ (w1 := ?_) (v := ?_) (by rfl) rfl ?_ ?_
                rotate_left 2
                · go_simp
                  constructor
                  · rfl
                  · rfl
                refine hK.out _ _ ⟨((Below.cell (below_alloc (Below.refl _ _) _) (show bO < _ from by (first | omega | (have := hbW.size; omega) | (simp [World.drew]; omega)))).trans hHeld.1), ((Below.cell (below_alloc (Below.refl _ _) _) (show gx < _ from by (first | omega | (have := hbW.size; omega) | (simp [World.drew]; omega)))).trans hHeld.2.1), ((Below.cell (below_alloc (Below.refl _ _) _) (show gx < _ from by (first | omega | (have := hbW.size; omega) | (simp [World.drew]; omega)))).trans hHeld.2.2)⟩ (fun hHeld => ?_)
                clear hK K
                refine norm_ (a' := ?_) ?_ ?_
                rotate_left
                · show Act.put _ (some 97) _ = _
                  simp only [Act.put, List.setIfInBounds_toArray, List.set_cons_zero, List.set_cons_succ, i64_w, i32_w]
                  rfl
                refine one_ (i := 23) (N := some 107) #[true, true, true, true, true, true, true, true, true, true, true, true, true, true, true, true, true, true, true, true, true, true, true, true, false, false, false, false] rfl rfl (by kernel_rfl) (by decide) (fun K hK => ?_)
                refine value_ (w1 := ?_) (v := ?_) (by rfl) rfl ?_ ?_
                rotate_left 2
                · go_simp
                  constructor
                  · rfl
                  · rfl
                refine hK.out _ _ ⟨((Below.cell (below_alloc (Below.refl _ _) _) (show bO < _ from by (first | omega | (have := hbW.size; omega) | (simp [World.drew]; omega)))).trans hHeld.1), ((Below.cell (below_alloc (Below.refl _ _) _) (show gx < _ from by (first | omega | (have := hbW.size; omega) | (simp [World.drew]; omega)))).trans hHeld.2.1), ((Below.cell (below_alloc (Below.refl _ _) _) (show gx < _ from by (first | omega | (have := hbW.size; omega) | (simp [World.drew]; omega)))).trans hHeld.2.2)⟩ (fun hHeld => ?_)
                clear hK K
                refine norm_ (a' := ?_) ?_ ?_
                rotate_left
                · show Act.put _ (some 107) _ = _
                  simp only [Act.put, List.setIfInBounds_toArray, List.set_cons_zero, List.set_cons_succ, i64_w, i32_w]
                  rfl
                exact norm_ (by simp only [putAll, Act.put, List.setIfInBounds_toArray, List.set_cons_zero, List.set_cons_succ]) (hCont (W1.heap.size, W1.heap.size + 1, W1.heap.size + 2) _ ⟨⟨(by (try simp only [hwn, hwa, hwb]); (try dsimp only); repeat (first | exact blk_newAt _ _ _ (by simp [World.drew]) | refine blk_drew ?_ | refine blk_alloc ?_ _)), by ((try dsimp only); omega), (by (try simp only [hwn, hwa, hwb]); (try dsimp only); repeat (first | exact blk_newAt _ _ _ (by simp [World.drew]) | refine blk_drew ?_ | refine blk_alloc ?_ _)), by ((try dsimp only); omega), (by (try simp only [hwn, hwa, hwb]); (try dsimp only); repeat (first | exact blk_newAt _ _ _ (by simp [World.drew]) | refine blk_drew ?_ | refine blk_alloc ?_ _)), by ((try dsimp only); omega)⟩, (by repeat (first | exact Below.refl _ _ | refine Below.drew ?_ | refine below_alloc ?_ _))⟩)
              · skip
                refine value_ (w1 := ?_) (v := ?_) (by rfl) rfl ?_ ?_
                rotate_left 2
                · go_simp
                  constructor
                  · rfl
                  · rfl
                refine hK.out _ _ ⟨((Below.cell (below_alloc (Below.refl _ _) _) (show bO < _ from by (first | omega | (have := hbW.size; omega) | (simp [World.drew]; omega)))).trans hHeld.1), ((Below.cell (below_alloc (Below.refl _ _) _) (show gx < _ from by (first | omega | (have := hbW.size; omega) | (simp [World.drew]; omega)))).trans hHeld.2.1), ((Below.cell (below_alloc (Below.refl _ _) _) (show gx < _ from by (first | omega | (have := hbW.size; omega) | (simp [World.drew]; omega)))).trans hHeld.2.2)⟩ (fun hHeld => ?_)
                clear hK K
                refine norm_ (a' := ?_) ?_ ?_
                rotate_left
                · show Act.put _ (some 107) _ = _
                  simp only [Act.put, List.setIfInBounds_toArray, List.set_cons_zero, List.set_cons_succ, i64_w, i32_w]
                  rfl
                refine one_ (i := 13) (N := some 97) #[true, true, true, true, true, true, true, true, true, true, true, true, true, true, true, true, true, true, true, true, true, true, true, true, false, false, false, false] rfl rfl (by kernel_rfl) (by decide) (fun K hK => ?_)
                refine value_ (w1 := ?_) (v := ?_) (by rfl) rfl ?_ ?_
                rotate_left 2
                · go_simp
                  constructor
                  · rfl
                  · rfl
                refine hK.out _ _ ⟨((Below.cell (below_alloc (Below.refl _ _) _) (show bO < _ from by (first | omega | (have := hbW.size; omega) | (simp [World.drew]; omega)))).trans hHeld.1), ((Below.cell (below_alloc (Below.refl _ _) _) (show gx < _ from by (first | omega | (have := hbW.size; omega) | (simp [World.drew]; omega)))).trans hHeld.2.1), ((Below.cell (below_alloc (Below.refl _ _) _) (show gx < _ from by (first | omega | (have := hbW.size; omega) | (simp [World.drew]; omega)))).trans hHeld.2.2)⟩ (fun hHeld => ?_)
                clear hK K
                refine norm_ (a' := ?_) ?_ ?_
                rotate_left
                · show Act.put _ (some 97) _ = _
                  simp only [Act.put, List.setIfInBounds_toArray, List.set_cons_zero, List.set_cons_succ, i64_w, i32_w]
                  rfl
                exact norm_ (by simp only [putAll, Act.put, List.setIfInBounds_toArray, List.set_cons_zero, List.set_cons_succ]) (hCont (W1.heap.size, W1.heap.size + 2, W1.heap.size + 1) _ ⟨⟨(by (try simp only [hwn, hwa, hwb]); (try dsimp only); repeat (first | exact blk_newAt _ _ _ (by simp [World.drew]) | refine blk_drew ?_ | refine blk_alloc ?_ _)), by ((try dsimp only); omega), (by (try simp only [hwn, hwa, hwb]); (try dsimp only); repeat (first | exact blk_newAt _ _ _ (by simp [World.drew]) | refine blk_drew ?_ | refine blk_alloc ?_ _)), by ((try dsimp only); omega), (by (try simp only [hwn, hwa, hwb]); (try dsimp only); repeat (first | exact blk_newAt _ _ _ (by simp [World.drew]) | refine blk_drew ?_ | refine blk_alloc ?_ _)), by ((try dsimp only); omega)⟩, (by repeat (first | exact Below.refl _ _ | refine Below.drew ?_ | refine below_alloc ?_ _))⟩)
            · skip
              refine value_ (w1 := ?_) (v := ?_) (by rfl) rfl ?_ ?_
              rotate_left 2
              · go_simp
                constructor
                · rfl
                · rfl
              refine hK.out _ _ ⟨((Below.cell (below_alloc (Below.refl _ _) _) (show bO < _ from by (first | omega | (have := hbW.size; omega) | (simp [World.drew]; omega)))).trans hHeld.1), ((Below.cell (below_alloc (Below.refl _ _) _) (show gx < _ from by (first | omega | (have := hbW.size; omega) | (simp [World.drew]; omega)))).trans hHeld.2.1), ((Below.cell (below_alloc (Below.refl _ _) _) (show gx < _ from by (first | omega | (have := hbW.size; omega) | (simp [World.drew]; omega)))).trans hHeld.2.2)⟩ (fun hHeld => ?_)
              clear hK K
              refine norm_ (a' := ?_) ?_ ?_
              rotate_left
              · show Act.put _ (some 97) _ = _
                simp only [Act.put, List.setIfInBounds_toArray, List.set_cons_zero, List.set_cons_succ, i64_w, i32_w]
                rfl
              refine two_ (i := 7) (j := 23) (Ni := some 91) (Nj := some 107) #[true, true, true, true, true, true, true, true, true, true, true, true, true, true, true, true, true, true, true, true, true, true, true, false, false, false, false, false] #[true, true, true, true, true, true, true, false, true, true, true, true, true, true, true, true, true, true, true, true, true, true, true, true, false, false, false, false] rfl rfl rfl rfl (by kernel_rfl) (by decide) (by decide) (fun K hK => ?_) (fun K hK => ?_)
              · skip
                refine value_ (w1 := ?_) (v := ?_) (by rfl) rfl ?_ ?_
                rotate_left 2
                · go_simp
                  constructor
                  · rfl
                  · rfl
                refine hK.out _ _ ⟨((Below.cell (below_alloc (Below.refl _ _) _) (show bO < _ from by (first | omega | (have := hbW.size; omega) | (simp [World.drew]; omega)))).trans hHeld.1), ((Below.cell (below_alloc (Below.refl _ _) _) (show gx < _ from by (first | omega | (have := hbW.size; omega) | (simp [World.drew]; omega)))).trans hHeld.2.1), ((Below.cell (below_alloc (Below.refl _ _) _) (show gx < _ from by (first | omega | (have := hbW.size; omega) | (simp [World.drew]; omega)))).trans hHeld.2.2)⟩ (fun hHeld => ?_)
                clear hK K
                refine norm_ (a' := ?_) ?_ ?_
                rotate_left
                · show Act.put _ (some 91) _ = _
                  simp only [Act.put, List.setIfInBounds_toArray, List.set_cons_zero, List.set_cons_succ, i64_w, i32_w]
                  rfl
                refine one_ (i := 23) (N := some 107) #[true, true, true, true, true, true, true, true, true, true, true, true, true, true, true, true, true, true, true, true, true, true, true, true, false, false, false, false] rfl rfl (by kernel_rfl) (by decide) (fun K hK => ?_)
                refine value_ (w1 := ?_) (v := ?_) (by rfl) rfl ?_ ?_
                rotate_left 2
                · go_simp
                  constructor
                  · rfl
                  · rfl
                refine hK.out _ _ ⟨((Below.cell (below_alloc (Below.refl _ _) _) (show bO < _ from by (first | omega | (have := hbW.size; omega) | (simp [World.drew]; omega)))).trans hHeld.1), ((Below.cell (below_alloc (Below.refl _ _) _) (show gx < _ from by (first | omega | (have := hbW.size; omega) | (simp [World.drew]; omega)))).trans hHeld.2.1), ((Below.cell (below_alloc (Below.refl _ _) _) (show gx < _ from by (first | omega | (have := hbW.size; omega) | (simp [World.drew]; omega)))).trans hHeld.2.2)⟩ (fun hHeld => ?_)
                clear hK K
                refine norm_ (a' := ?_) ?_ ?_
                rotate_left
                · show Act.put _ (some 107) _ = _
                  simp only [Act.put, List.setIfInBounds_toArray, List.set_cons_zero, List.set_cons_succ, i64_w, i32_w]
                  rfl
                exact norm_ (by simp only [putAll, Act.put, List.setIfInBounds_toArray, List.set_cons_zero, List.set_cons_succ]) (hCont (W1.heap.size + 1, W1.heap.size, W1.heap.size + 2) _ ⟨⟨(by (try simp only [hwn, hwa, hwb]); (try dsimp only); repeat (first | exact blk_newAt _ _ _ (by simp [World.drew]) | refine blk_drew ?_ | refine blk_alloc ?_ _)), by ((try dsimp only); omega), (by (try simp only [hwn, hwa, hwb]); (try dsimp only); repeat (first | exact blk_newAt _ _ _ (by simp [World.drew]) | refine blk_drew ?_ | refine blk_alloc ?_ _)), by ((try dsimp only); omega), (by (try simp only [hwn, hwa, hwb]); (try dsimp only); repeat (first | exact blk_newAt _ _ _ (by simp [World.drew]) | refine blk_drew ?_ | refine blk_alloc ?_ _)), by ((try dsimp only); omega)⟩, (by repeat (first | exact Below.refl _ _ | refine Below.drew ?_ | refine below_alloc ?_ _))⟩)
              · skip
                refine value_ (w1 := ?_) (v := ?_) (by rfl) rfl ?_ ?_
                rotate_left 2
                · go_simp
                  constructor
                  · rfl
                  · rfl
                refine hK.out _ _ ⟨((Below.cell (below_alloc (Below.refl _ _) _) (show bO < _ from by (first | omega | (have := hbW.size; omega) | (simp [World.drew]; omega)))).trans hHeld.1), ((Below.cell (below_alloc (Below.refl _ _) _) (show gx < _ from by (first | omega | (have := hbW.size; omega) | (simp [World.drew]; omega)))).trans hHeld.2.1), ((Below.cell (below_alloc (Below.refl _ _) _) (show gx < _ from by (first | omega | (have := hbW.size; omega) | (simp [World.drew]; omega)))).trans hHeld.2.2)⟩ (fun hHeld => ?_)
                clear hK K
                refine norm_ (a' := ?_) ?_ ?_
                rotate_left
                · show Act.put _ (some 107) _ = _
                  simp only [Act.put, List.setIfInBounds_toArray, List.set_cons_zero, List.set_cons_succ, i64_w, i32_w]
                  rfl
                refine one_ (i := 7) (N := some 91) #[true, true, true, true, true, true, true, true, true, true, true, true, true, true, true, true, true, true, true, true, true, true, true, true, false, false, false, false] rfl rfl (by kernel_rfl) (by decide) (fun K hK => ?_)
                refine value_ (w1 := ?_) (v := ?_) (by rfl) rfl ?_ ?_
                rotate_left 2
                · go_simp
                  constructor
                  · rfl
                  · rfl
                refine hK.out _ _ ⟨((Below.cell (below_alloc (Below.refl _ _) _) (show bO < _ from by (first | omega | (have := hbW.size; omega) | (simp [World.drew]; omega)))).trans hHeld.1), ((Below.cell (below_alloc (Below.refl _ _) _) (show gx < _ from by (first | omega | (have := hbW.size; omega) | (simp [World.drew]; omega)))).trans hHeld.2.1), ((Below.cell (below_alloc (Below.refl _ _) _) (show gx < _ from by (first | omega | (have := hbW.size; omega) | (simp [World.drew]; omega)))).trans hHeld.2.2)⟩ (fun hHeld => ?_)
                clear hK K
                refine norm_ (a' := ?_) ?_ ?_
                rotate_left
                · show Act.put _ (some 91) _ = _
                  simp only [Act.put, List.setIfInBounds_toArray, List.set_cons_zero, List.set_cons_succ, i64_w, i32_w]
                  rfl
                exact norm_ (by simp only [putAll, Act.put, List.setIfInBounds_toArray, List.set_cons_zero, List.set_cons_succ]) (hCont (W1.heap.size + 2, W1.heap.size, W1.heap.size + 1) _ ⟨⟨(by (try simp only [hwn, hwa, hwb]); (try dsimp only); repeat (first | exact blk_newAt _ _ _ (by simp [World.drew]) | refine blk_drew ?_ | refine blk_alloc ?_ _)), by ((try dsimp only); omega), (by (try simp only [hwn, hwa, hwb]); (try dsimp only); repeat (first | exact blk_newAt _ _ _ (by simp [World.drew]) | refine blk_drew ?_ | refine blk_alloc ?_ _)), by ((try dsimp only); omega), (by (try simp only [hwn, hwa, hwb]); (try dsimp only); repeat (first | exact blk_newAt _ _ _ (by simp [World.drew]) | refine blk_drew ?_ | refine blk_alloc ?_ _)), by ((try dsimp only); omega)⟩, (by repeat (first | exact Below.refl _ _ | refine Below.drew ?_ | refine below_alloc ?_ _))⟩)
            · skip
              refine value_ (w1 := ?_) (v := ?_) (by rfl) rfl ?_ ?_
              rotate_left 2
              · go_simp
                constructor
                · rfl
                · rfl
              refine hK.out _ _ ⟨((Below.cell (below_alloc (Below.refl _ _) _) (show bO < _ from by (first | omega | (have := hbW.size; omega) | (simp [World.drew]; omega)))).trans hHeld.1), ((Below.cell (below_alloc (Below.refl _ _) _) (show gx < _ from by (first | omega | (have := hbW.size; omega) | (simp [World.drew]; omega)))).trans hHeld.2.1), ((Below.cell (below_alloc (Below.refl _ _) _) (show gx < _ from by (first | omega | (have := hbW.size; omega) | (simp [World.drew]; omega)))).trans hHeld.2.2)⟩ (fun hHeld => ?_)
              clear hK K
              refine norm_ (a' := ?_) ?_ ?_
              rotate_left
              · show Act.put _ (some 107) _ = _
                simp only [Act.put, List.setIfInBounds_toArray, List.set_cons_zero, List.set_cons_succ, i64_w, i32_w]
                rfl
              refine two_ (i := 7) (j := 13) (Ni := some 91) (Nj := some 97) #[true, true, true, true, true, true, true, true, true, true, true, true, true, false, true, true, true, true, true, true, true, true, true, true, false, false, false, false] #[true, true, true, true, true, true, true, false, true, true, true, true, true, true, true, true, true, true, true, true, true, true, true, true, false, false, false, false] rfl rfl rfl rfl (by kernel_rfl) (by decide) (by decide) (fun K hK => ?_) (fun K hK => ?_)
              · skip
                refine value_ (w1 := ?_) (v := ?_) (by rfl) rfl ?_ ?_
                rotate_left 2
                · go_simp
                  constructor
                  · rfl
                  · rfl
                refine hK.out _ _ ⟨((Below.cell (below_alloc (Below.refl _ _) _) (show bO < _ from by (first | omega | (have := hbW.size; omega) | (simp [World.drew]; omega)))).trans hHeld.1), ((Below.cell (below_alloc (Below.refl _ _) _) (show gx < _ from by (first | omega | (have := hbW.size; omega) | (simp [World.drew]; omega)))).trans hHeld.2.1), ((Below.cell (below_alloc (Below.refl _ _) _) (show gx < _ from by (first | omega | (have := hbW.size; omega) | (simp [World.drew]; omega)))).trans hHeld.2.2)⟩ (fun hHeld => ?_)
                clear hK K
                refine norm_ (a' := ?_) ?_ ?_
                rotate_left
                · show Act.put _ (some 91) _ = _
                  simp only [Act.put, List.setIfInBounds_toArray, List.set_cons_zero, List.set_cons_succ, i64_w, i32_w]
                  rfl
                refine one_ (i := 13) (N := some 97) #[true, true, true, true, true, true, true, true, true, true, true, true, true, true, true, true, true, true, true, true, true, true, true, true, false, false, false, false] rfl rfl (by kernel_rfl) (by decide) (fun K hK => ?_)
                refine value_ (w1 := ?_) (v := ?_) (by rfl) rfl ?_ ?_
                rotate_left 2
                · go_simp
                  constructor
                  · rfl
                  · rfl
                refine hK.out _ _ ⟨((Below.cell (below_alloc (Below.refl _ _) _) (show bO < _ from by (first | omega | (have := hbW.size; omega) | (simp [World.drew]; omega)))).trans hHeld.1), ((Below.cell (below_alloc (Below.refl _ _) _) (show gx < _ from by (first | omega | (have := hbW.size; omega) | (simp [World.drew]; omega)))).trans hHeld.2.1), ((Below.cell (below_alloc (Below.refl _ _) _) (show gx < _ from by (first | omega | (have := hbW.size; omega) | (simp [World.drew]; omega)))).trans hHeld.2.2)⟩ (fun hHeld => ?_)
                clear hK K
                refine norm_ (a' := ?_) ?_ ?_
                rotate_left
                · show Act.put _ (some 97) _ = _
                  simp only [Act.put, List.setIfInBounds_toArray, List.set_cons_zero, List.set_cons_succ, i64_w, i32_w]
                  rfl
                exact norm_ (by simp only [putAll, Act.put, List.setIfInBounds_toArray, List.set_cons_zero, List.set_cons_succ]) (hCont (W1.heap.size + 1, W1.heap.size + 2, W1.heap.size) _ ⟨⟨(by (try simp only [hwn, hwa, hwb]); (try dsimp only); repeat (first | exact blk_newAt _ _ _ (by simp [World.drew]) | refine blk_drew ?_ | refine blk_alloc ?_ _)), by ((try dsimp only); omega), (by (try simp only [hwn, hwa, hwb]); (try dsimp only); repeat (first | exact blk_newAt _ _ _ (by simp [World.drew]) | refine blk_drew ?_ | refine blk_alloc ?_ _)), by ((try dsimp only); omega), (by (try simp only [hwn, hwa, hwb]); (try dsimp only); repeat (first | exact blk_newAt _ _ _ (by simp [World.drew]) | refine blk_drew ?_ | refine blk_alloc ?_ _)), by ((try dsimp only); omega)⟩, (by repeat (first | exact Below.refl _ _ | refine Below.drew ?_ | refine below_alloc ?_ _))⟩)
              · skip
                refine value_ (w1 := ?_) (v := ?_) (by rfl) rfl ?_ ?_
                rotate_left 2
                · go_simp
                  constructor
                  · rfl
                  · rfl
                refine hK.out _ _ ⟨((Below.cell (below_alloc (Below.refl _ _) _) (show bO < _ from by (first | omega | (have := hbW.size; omega) | (simp [World.drew]; omega)))).trans hHeld.1), ((Below.cell (below_alloc (Below.refl _ _) _) (show gx < _ from by (first | omega | (have := hbW.size; omega) | (simp [World.drew]; omega)))).trans hHeld.2.1), ((Below.cell (below_alloc (Below.refl _ _) _) (show gx < _ from by (first | omega | (have := hbW.size; omega) | (simp [World.drew]; omega)))).trans hHeld.2.2)⟩ (fun hHeld => ?_)
                clear hK K
                refine norm_ (a' := ?_) ?_ ?_
                rotate_left
                · show Act.put _ (some 97) _ = _
                  simp only [Act.put, List.setIfInBounds_toArray, List.set_cons_zero, List.set_cons_succ, i64_w, i32_w]
                  rfl
                refine one_ (i := 7) (N := some 91) #[true, true, true, true, true, true, true, true, true, true, true, true, true, true, true, true, true, true, true, true, true, true, true, true, false, false, false, false] rfl rfl (by kernel_rfl) (by decide) (fun K hK => ?_)
                refine value_ (w1 := ?_) (v := ?_) (by rfl) rfl ?_ ?_
                rotate_left 2
                · go_simp
                  constructor
                  · rfl
                  · rfl
                refine hK.out _ _ ⟨((Below.cell (below_alloc (Below.refl _ _) _) (show bO < _ from by (first | omega | (have := hbW.size; omega) | (simp [World.drew]; omega)))).trans hHeld.1), ((Below.cell (below_alloc (Below.refl _ _) _) (show gx < _ from by (first | omega | (have := hbW.size; omega) | (simp [World.drew]; omega)))).trans hHeld.2.1), ((Below.cell (below_alloc (Below.refl _ _) _) (show gx < _ from by (first | omega | (have := hbW.size; omega) | (simp [World.drew]; omega)))).trans hHeld.2.2)⟩ (fun hHeld => ?_)
                clear hK K
                refine norm_ (a' := ?_) ?_ ?_
                rotate_left
                · show Act.put _ (some 91) _ = _
                  simp only [Act.put, List.setIfInBounds_toArray, List.set_cons_zero, List.set_cons_succ, i64_w, i32_w]
                  rfl
                exact norm_ (by simp only [putAll, Act.put, List.setIfInBounds_toArray, List.set_cons_zero, List.set_cons_succ]) (hCont (W1.heap.size + 2, W1.heap.size + 1, W1.heap.size) _ ⟨⟨(by (try simp only [hwn, hwa, hwb]); (try dsimp only); repeat (first | exact blk_newAt _ _ _ (by simp [World.drew]) | refine blk_drew ?_ | refine blk_alloc ?_ _)), by ((try dsimp only); omega), (by (try simp only [hwn, hwa, hwb]); (try dsimp only); repeat (first | exact blk_newAt _ _ _ (by simp [World.drew]) | refine blk_drew ?_ | refine blk_alloc ?_ _)), by ((try dsimp only); omega), (by (try simp only [hwn, hwa, hwb]); (try dsimp only); repeat (first | exact blk_newAt _ _ _ (by simp [World.drew]) | refine blk_drew ?_ | refine blk_alloc ?_ _)), by ((try dsimp only); omega)⟩, (by repeat (first | exact Below.refl _ _ | refine Below.drew ?_ | refine below_alloc ?_ _))⟩)
          rintro ⟨g0, g1, g2⟩ w' ⟨⟨hg0, hw0, hg1, hw1, hg2, hw2⟩, hbW⟩
          dsimp only at *
          have hHeld : w'.cell? ⟨bO, 1, none⟩ = some (.slice A1 R.1.l.length c1) ∧ w'.cell? ⟨gx, 0, none⟩ = some (.int .i64 a) ∧ w'.cell? ⟨gx, 1, none⟩ = some (.int .i64 b) := ⟨(Below.cell hbW (by omega)).trans hn1, (Below.cell hbW (by omega)).trans hxa, (Below.cell hbW (by omega)).trans hxb⟩
          refine norm_ (a' := ?_) ?_ ?_
          rotate_left
          · simp only [putAll, Act.put, List.setIfInBounds_toArray, List.set_cons_zero, List.set_cons_succ]
            rfl
          refine one_ (i := 24) (N := some 108) #[true, true, true, true, true, true, true, true, true, true, true, true, true, true, true, true, true, true, true, true, true, true, true, true, true, false, false, false] rfl rfl (by kernel_rfl) (by decide) (fun K hK => ?_)
          refine value_ (w1 := ?_) (v := ?_) (by rfl) rfl ?_ ?_
          rotate_left 2
          · go_simp
            constructor
            · rfl
            · rfl
          refine hK.out _ _ ⟨((Below.cell (below_alloc (Below.refl _ _) _) (show bO < _ from by (first | omega | (have := hbW.size; omega) | (simp [World.drew]; omega)))).trans hHeld.1), ((Below.cell (below_alloc (Below.refl _ _) _) (show gx < _ from by (first | omega | (have := hbW.size; omega) | (simp [World.drew]; omega)))).trans hHeld.2.1), ((Below.cell (below_alloc (Below.refl _ _) _) (show gx < _ from by (first | omega | (have := hbW.size; omega) | (simp [World.drew]; omega)))).trans hHeld.2.2)⟩ (fun hHeld => ?_)
          clear hK K
          refine norm_ (a' := ?_) ?_ ?_
          rotate_left
          · show Act.put _ (some 108) _ = _
            simp only [Act.put, List.setIfInBounds_toArray, List.set_cons_zero, List.set_cons_succ, i64_w, i32_w]
            rfl
          refine last_ (i := 25) (N := some 109) #[true, true, true, true, true, true, true, true, true, true, true, true, true, true, true, true, true, true, true, true, true, true, true, true, true, true, false, false] rfl rfl (by kernel_rfl) (by decide) (fun K hK => ?_)
          have HB2 := Aside0.mk (below_alloc hbW (.cells #[.slice (some ⟨g0, 0, none⟩) 2 2, .slice (some ⟨g1, 0, none⟩) 2 2, .slice (some ⟨g2, 0, none⟩) 3 3] 54))
          have hBC : (w'.alloc (.cells #[.slice (some ⟨g0, 0, none⟩) 2 2, .slice (some ⟨g1, 0, none⟩) 2 2, .slice (some ⟨g2, 0, none⟩) 3 3] 54)).heap[w'.heap.size]? = some (.cells [.slice (some ⟨g0, 0, none⟩) 2 2, .slice (some ⟨g1, 0, none⟩) 2 2, .slice (some ⟨g2, 0, none⟩) 3 3].toArray 54 (0, 0)) := blk_new _ _
          refine LT.append_step (F := fun i => F i ∨ W.heap.size ≤ i) (n0 := w0.heap.size) (by rfl) (.tmp 85) (.tmp 108) rfl (.slice A1 R.1.l.length c1) R.1.l [[-(N : Int), a], [-(N : Int), b], [(N : Int), -a, -b]] ⟨w'.heap.size, 0, none⟩ 3 [.slice (some ⟨g0, 0, none⟩) 2 2, .slice (some ⟨g1, 0, none⟩) 2 2, .slice (some ⟨g2, 0, none⟩) 3 3] rfl rfl (news_at hBC) (Reps.snoc (Reps.snoc (Reps.snoc (Reps.none _ _) (RI.blk (ns := [-(N : Int), a]) (blk_alloc hg0 _) (.inr (Nat.le_trans HUW.out.size hw0)) (by simp)) rfl) (RI.blk (ns := [-(N : Int), b]) (blk_alloc hg1 _) (.inr (Nat.le_trans HUW.out.size hw1)) (by simp)) rfl) (RI.blk (ns := [(N : Int), -a, -b]) (blk_alloc hg2 _) (.inr (Nat.le_trans HUW.out.size hw2)) (by simp)) rfl) rfl (by simp [Value.oneCell']) (HLW.out.below HB2.out) (Nat.le_trans HBW2.out.size HB2.out.size) (by omega) ?_
          intro v3 w3 ho3 hg3 hat3
          have HL3 := Aside0.mk ho3
          have HG3 := Aside0.mk ((Upd.of_below (E := Ev (.slice A1 R.1.l.length c1)) HB2.out).grown hg3 (fun r e _ => e))
          have HT3 := Aside0.mk (OwnStep.trans (v1 := .slice A1 R.1.l.length c1) (.inl rfl) hat3 HB2.out.size)
          have hO3 : OutAt w3 bO N (.slice A1 R.1.l.length c1) := (HG3.out.block bO (blk_lt HO2.out) (fun e => HLW.out.ne HO2.out (by decide) e)).trans HO2.out
          have hc3 : w3.cell? ⟨bO, 1, none⟩ = some (.slice A1 R.1.l.length c1) := blk_cell hO3 1
          have hf3 := blk_frozen hO3 1
          obtain ⟨A5, c5, hv5, hq1, hq2⟩ := ho3.reads
          rw [show (R.1.l ++ [[-(N : Int), a], [-(N : Int), b], [(N : Int), -a, -b]]).length = R.1.l.length + 3 from List.length_append] at hv5
          subst hv5
          clear hq1 hq2 ho3 hg3 hat3 hO3 hBC
          refine hK.out _ _ ?_
          clear hK K
          refine norm_ (a' := ?_) ?_ ?_
          rotate_left
          · show Act.put _ (some 109) _ = _
            simp only [Act.put, List.setIfInBounds_toArray, List.set_cons_zero, List.set_cons_succ, i64_w, i32_w]
            rfl
          refine pure_ (i := 26) (N := some 110) (v := ?_) (a' := ?_) #[true, true, true, true, true, true, true, true, true, true, true, true, true, true, true, true, true, true, true, true, true, true, true, true, true, true, true, false] rfl rfl (by kernel_rfl) (fun _ _ _ h => h) (Or.inl ⟨by rfl, ?_⟩) ?_ ?_
          rotate_left
          · intro w'
            go_simp
            with_reducible rfl
          rotate_left
          · simp only [Act.put, List.setIfInBounds_toArray, List.set_cons_zero, List.set_cons_succ, i64_w, i32_w]
            rfl
          refine last_ (i := 27) (N := none) #[true, true, true, true, true, true, true, true, true, true, true, true, true, true, true, true, true, true, true, true, true, true, true, true, true, true, true, true] rfl rfl (by kernel_rfl) (by decide) (fun K hK => ?_)
          refine skip_ (w1 := ?_) (by rfl) rfl ?_ ?_
          rotate_left
          · go_simp
            rfl
          refine hK.out _ _ ?_
          clear hK K
          refine done_ (by kernel_rfl) ?_
          go_wp2_with fail
          go_ret
          exact lay_end (M := cls 7 N [a, b]) HR2.out HUW.out HSW.out HO2.out HLW.out HG3.out.size HG3.out HT3.out HL3.out
end Go.Proofs.YtbfgoopomfenjaaDoor
