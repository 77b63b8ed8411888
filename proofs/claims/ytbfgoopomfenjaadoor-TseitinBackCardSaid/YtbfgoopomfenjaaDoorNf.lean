import Derived.Test.YtbfgoopomfenjaaDoorNe
namespace Go.Proofs.YtbfgoopomfenjaaDoor
open Go.RowKit Go.Proofs.YtbfgoopomfenjaaDoorW.PrintWords Go.Proofs.YtbfgoopomfenjaaDoorW.PrintLast Go.Proofs.YtbfgoopomfenjaaDoor.PTseitinValues
set_option linter.unusedVariables false
set_option linter.unusedSimpArgs false
attribute [local go_sem] World.cell?_alloc_lt
attribute [local go_sem] run_store_fn

set_option maxRecDepth 100000 in
set_option maxHeartbeats 4000000 in
theorem law_back (l : List S41) (A : Option Addr) (c : Nat) (vs : List Bool) (Av : Option Addr) (cv : Nat) (W : World) (hc : l.length ≤ c) (hcv : vs.length ≤ cv) (hC : k41.C W A l.length l) (hVC : kB.C W Av vs.length vs) (hN : Needs W) :
    Calls Tryd.prog 7 #[.slice A l.length c, .slice Av vs.length cv] W fun e w' => e = .returned (.bool true) ∧ Below W.heap.size W w' := by
  have hvl : vs.length ≤ 9223372036854775807 := hVC.2.1
  have HC := Aside0.mk hC
  have HVC := Aside0.mk hVC
  have HN := Aside0.mk hN
  have HF := Aside0.mk (law_few l A c 200 W (by omega) (by omega) hc hC)
  have e200 : Int.toNat 200 = 200 := rfl
  rw [e200] at HF
  clear hC hVC hN e200
  cases hf : fewOf l 200 with
  | false =>
    rw [hf] at HF
    go_enter Tryd.func7, Tryd.ntmps7
    go_wp2_with (first
      | (go_at_call 9; refine HF.out.mono ?_; rintro e w1 ⟨rfl, hb⟩; have HB1 := Aside0.mk hb; clear hb)
      | (go_at_call 10; refine (law_alive _ (HN.out.below HB1.out)).mono ?_; rintro e w2 ⟨rfl, hb⟩; have HB2 := Aside0.mk (below_step HB1.out hb); clear hb))
    go_ret
    exact ⟨rfl, HB2.out⟩
  | true =>
    obtain ⟨hs, hsum⟩ := few_facts hf (by omega)
    rw [hf] at HF
    have HS : Aside0 (∀ x ∈ l, csize x ≤ 4096) := ⟨fun x hx => Nat.le_trans (hs x hx) (by omega)⟩
    clear hs hf
    by_cases hv : 3000 < vs.length
    · have hv1 : decide ((3000 : Int) < (vs.length : Int)) = true := decide_eq_true (by omega)
      have hv2 : decide (3000 < vs.length) = true := decide_eq_true hv
      go_enter Tryd.func7, Tryd.ntmps7
      go_wp2_with (first
        | (go_at_call 9; refine HF.out.mono ?_; rintro e w1 ⟨rfl, hb⟩; have HB1 := Aside0.mk hb; clear hb)
        | (go_at_call 10; refine (law_alive _ (HN.out.below HB1.out)).mono ?_; rintro e w2 ⟨rfl, hb⟩; have HB2 := Aside0.mk (below_step HB1.out hb); clear hb))
      go_ret
      exact ⟨rfl, HB2.out⟩
    · have hv1 : decide ((3000 : Int) < (vs.length : Int)) = false := decide_eq_false (by omega)
      have hv2 : decide (3000 < vs.length) = false := decide_eq_false hv
      have HOF := Aside0.mk (fun V (hb : Below W.heap.size W V) => prog_Of W l A c V hb HC.out (HN.out.below hb) HS.out (by omega))
      have HAG := Aside0.mk (fun h => @back_law l h)
      have HCL := Aside0.mk (fun h => @ofR_cl l h)
      generalize hr : ofR l = r at *
      by_cases he : r.e = 0
      · have heb : (r.e != 0) = false := by simpa using he
        by_cases hlen : vs.length < r.n
        · have hl1 : decide ((vs.length : Int) < (r.n : Int)) = true := decide_eq_true (by omega)
          have hl2 : decide (vs.length < r.n) = true := decide_eq_true hlen
          clear he hlen hr
          go_enter Tryd.func7, Tryd.ntmps7
          go_upto_region 4 with (first
            | (go_at_call 9; refine HF.out.mono ?_; rintro e w1 ⟨rfl, hb⟩; have HB1 := Aside0.mk hb; clear hb)
            | (go_at_call 11; refine (HOF.out _ HB1.out).mono ?_; rintro e w2 ⟨A1, c1, A2, c2, rfl, hle, hC2, hat, hb⟩; have HB2 := Aside0.mk (below_step HB1.out hb); clear hle hC2 hat hb))
          have hB3 : Below w2.heap.size w2 (w2.alloc (.cells #[.int .i64 r.n, .slice A1 r.l.length c1] 27)) := below_alloc (Below.refl _ _) _
          have X3 : (w2.alloc (.cells #[.int .i64 r.n, .slice A1 r.l.length c1] 27)).heap[w2.heap.size]? = some (.cells #[.int .i64 r.n, .slice A1 r.l.length c1] 27 (0, 0)) := blk_new _ _
          have p0 := blk_cell X3 0
          have p1 := blk_cell X3 1
          have pl := blk_lt X3
          have HB3 := Aside0.mk (below_step HB2.out hB3)
          clear hB3 X3
          generalize hW : w2.alloc (.cells #[.int .i64 r.n, .slice A1 r.l.length c1] 27) = W3 at *
          clear hW
          generalize w2.heap.size = b3 at *
          go_wp2_with (first
            | (go_at_call 10; refine (law_alive _ (HN.out.below HB3.out)).mono ?_; rintro e w4 ⟨rfl, hb⟩; have HB4 := Aside0.mk (below_step HB3.out hb); clear hb))
          go_ret
          exact ⟨rfl, HB4.out⟩
        · have hl1 : decide ((vs.length : Int) < (r.n : Int)) = false := decide_eq_false (by omega)
          have hl2 : decide (vs.length < r.n) = false := decide_eq_false hlen
          have hle1 : r.n ≤ vs.length := by omega
          have HCX := Aside0.mk (HCL.out he)
          have hle2 : r.at_.length ≤ vs.length := by have := HCX.out.2.1; omega
          have hl3 : decide ((vs.length : Int) < (r.at_.length : Int)) = false := decide_eq_false (by omega)
          have hl4 : decide (vs.length < r.at_.length) = false := decide_eq_false (by omega)
          have hcut := bools_cut Av vs.length cv r.at_.length hle2 hcv
          have hcut2 := bools_cut Av vs.length cv r.n hle1 hcv
          have hwl : (vs.take r.at_.length).length = r.at_.length := by rw [List.length_take]; omega
          have hwl2 : (vs.take r.n).length = r.n := by rw [List.length_take]; omega
          have HAG2 := Aside0.mk (HAG.out he vs hle1)
          have hal : r.at_.length ≤ 1024 := by have := HCX.out; omega
          have HWC : Aside0 (kB.C W Av (vs.take r.at_.length).length (vs.take r.at_.length)) := ⟨Kd.C_take HVC.out hle2⟩
          have HWC2 : Aside0 (kB.C W Av r.n (vs.take r.n)) := ⟨by have h := Kd.C_take HVC.out hle1; rw [hwl2] at h; exact h⟩
          have HQ2 := Aside0.mk (fun V (hb : Below W.heap.size W V) => ts_Values W l A c (vs.take r.at_.length) Av cv V hb HC.out HWC.out (by omega) (HN.out.below hb) HS.out (by omega))
          have HQ3 := Aside0.mk (fun V t A' c' B' d' (hP : P41 W t A' c' B' d') (hb : Below W.heap.size W V) (hsz : csize t ≤ 4096) (A2 : Option Addr) (c2 : Nat) (hRA : RA W V A2 r.at_) => ts_Holds W r.at_ vs t A' c' B' d' A2 c2 Av cv V hP hb (HN.out.below hb) hsz hRA (by omega) (Kd.C_below HVC.out hb))
          rw [hwl] at HQ2
          clear HWC HAG HCL he hr
          go_enter Tryd.func7, Tryd.ntmps7
          go_upto_region 4 with (first
            | (go_at_call 9; refine HF.out.mono ?_; rintro e w1 ⟨rfl, hb⟩; have HB1 := Aside0.mk hb; clear hb)
            | (go_at_call 11; refine (HOF.out _ HB1.out).mono ?_; rintro e w2 ⟨A1, c1, A2, c2, rfl, hle, hC2, hat, hb⟩; have HL2 := Aside0.mk hC2; have HAT2 := Aside0.mk hat; have HB2 := Aside0.mk (below_step HB1.out hb); clear hle hC2 hat hb))
          have hB3 : Below w2.heap.size w2 (w2.alloc (.cells #[.int .i64 r.n, .slice A1 r.l.length c1] 27)) := below_alloc (Below.refl _ _) _
          have X3 : (w2.alloc (.cells #[.int .i64 r.n, .slice A1 r.l.length c1] 27)).heap[w2.heap.size]? = some (.cells #[.int .i64 r.n, .slice A1 r.l.length c1] 27 (0, 0)) := blk_new _ _
          have HX3 := Aside0.mk X3
          have p0 := blk_cell X3 0
          have p1 := blk_cell X3 1
          have pl := blk_lt X3
          have HL3 := Aside0.mk (Kd.C_below HL2.out hB3)
          have HRA3 := Aside0.mk ((HAT2.out.RA).2.2.below hB3)
          have HB3 := Aside0.mk (below_step HB2.out hB3)
          clear hB3 X3
          generalize hW : w2.alloc (.cells #[.int .i64 r.n, .slice A1 r.l.length c1] 27) = W3 at *
          clear hW
          generalize w2.heap.size = b3 at *
          have HCH := Aside0.mk (cnf_holds r.n r.l vs A1 c1 Av cv W3 (fun cl hcl x hx => by have h9 := (HCX.out.1 cl hcl).2 x hx; have := HCX.out.2.2; unfold LitOK; omega) HL3.out (Kd.C_below HVC.out HB3.out))
          cases hall : r.l.all (clT vs) with
          | false =>
            rw [hall] at HCH
            go_wp2_with (first
              | (go_at_call 23; refine HCH.out.mono ?_; rintro e w5 ⟨⟨i5, rfl⟩, hb⟩; have HB5 := Aside0.mk (below_step HB3.out hb); clear hb)
              | (go_at_call 10; refine (law_alive _ (HN.out.below HB5.out)).mono ?_; rintro e w6 ⟨rfl, hb⟩; have HB6 := Aside0.mk (below_step HB5.out hb); clear hb))
            go_ret
            exact ⟨rfl, HB6.out⟩
          | true =>
            rw [hall] at HCH
            obtain ⟨g1, g2⟩ := HAG2.out hall
            have HG2 := Aside0.mk g2
            rw [g1] at HQ2
            clear g1 g2 hall HAG2
            generalize holdsB r.at_ vs = hB at *
            have hVO : ∀ e V V', ValsOut (vs.take r.n, true) V e V' → ∃ A1 c1, e = .returned (.tuple #[.slice A1 r.n c1, .bool true]) ∧ kB.C V' A1 r.n (vs.take r.n) ∧ Below V.heap.size V V' := by
              rintro e V V' ⟨A1, c1, h1, h2, h3, h4⟩
              have h1 : e = .returned (.tuple #[.slice A1 (vs.take r.n).length c1, .bool true]) := h1
              have h3 : kB.C V' A1 (vs.take r.n).length (vs.take r.n) := h3
              rw [hwl2] at h1 h3
              exact ⟨A1, c1, h1, h3, h4⟩
            have HVO := Aside0.mk hVO
            have hBB : ∀ (A4 : Option Addr) (c4 : Nat) (W9 : World), kB.C W9 A4 r.n (vs.take r.n) → kB.C W9 Av r.n (vs.take r.n) → Calls Tryd.prog 17 #[.slice A4 r.n c4, .slice Av r.n cv] W9 fun e w' => e = .returned (.bool true) ∧ Below W9.heap.size W9 w' := by
              intro A4 c4 W9 h1 h2
              have h := base_bools (vs.take r.n) (vs.take r.n) A4 c4 Av cv W9 (by rw [hwl2]; exact h1) (by rw [hwl2]; exact h2)
              rw [hwl2, decide_eq_true (rfl : vs.take r.n = vs.take r.n)] at h
              exact h
            have HBB := Aside0.mk hBB
            clear hVO hwl hwl2 hBB
            generalize vs.take r.n = V at *
            go_upto_region 10 with (first
              | (go_at_call 23; refine HCH.out.mono ?_; rintro e w5 ⟨⟨i5, rfl⟩, hb⟩; have HB35 := Aside0.mk hb; have HB5 := Aside0.mk (below_step HB3.out hb); clear hb)
              | (go_at_call 15; refine (HQ2.out _ HB5.out).mono ?_; intro e w6 h6; obtain ⟨A4, c4, rfl, hc4, hb⟩ := HVO.out _ _ _ h6; have HC4 := Aside0.mk hc4; have HB46 := Aside0.mk (below_step HB35.out hb); have HB6 := Aside0.mk (below_step HB5.out hb); clear hb hc4 h6))
            have HX6 := Aside0.mk (blk_below HX3.out HB46.out)
            have q0 := blk_cell HX6.out 0
            have q1 := blk_cell HX6.out 1
            have ql := blk_lt HX6.out
            clear p0 p1 pl
            have HRA6 := Aside0.mk (HRA3.out.below HB46.out)
            have hla : l.length ≤ 9223372036854775807 := HC.out.2.1
            go_wp2_with (first
              | (go_at_call 17; refine (HBB.out A4 c4 _ HC4.out (Kd.C_below HWC2.out HB6.out)).mono ?_; rintro e w7 ⟨rfl, hb⟩; have HB67 := Aside0.mk hb; have HB7 := Aside0.mk (below_step HB6.out hb); clear hb))
            go_loopw [79] (fun i wr => ∃ k : Nat, k ≤ l.length ∧ i = .int .i64 k ∧ Aside0 (Below w7.heap.size w7 wr)) (fun i _ => l.length - (intOf i).toNat)
            case atStart => exact ⟨0, Nat.zero_le _, rfl, ⟨Below.refl _ _⟩⟩
            case round =>
              obtain ⟨k, hk, rfl, HBr⟩ := hrel
              have HB0r := Aside0.mk (HB7.out.trans (HBr.out.mono HB7.out.size))
              by_cases hlt : k < l.length
              · have hltb : decide (k < l.length) = true := decide_eq_true hlt
                obtain ⟨x, ad, A3, c3, B3, d3, hx, rfl, Z0⟩ := at41 HC.out k hlt
                have Z := Z0.below HB0r.out
                obtain ⟨z0, z1, z2, z3, z4, zl0, zln⟩ := Z.cells
                have hWB : Below wr.heap.size wr (wr.alloc (.cells #[.int .i64 x.f0, .string x.f1, .string x.f2, .slice A3 x.f3.length c3, .slice B3 x.f4.length d3] 41)) := below_alloc (Below.refl _ _) _
                have HWB := Aside0.mk (below_step HBr.out hWB)
                have h4x := HG2.out x (List.mem_of_getElem? hx)
                have HC1 := Aside0.mk (HQ3.out _ x A3 c3 B3 d3 Z0.P (HB7.out.trans (HWB.out.mono HB7.out.size)) (HS.out x (List.mem_of_getElem? hx)) A2 c2 ((HRA6.out.below HB67.out).below HWB.out))
                rw [h4x] at HC1
                clear hx Z0 hWB h4x
                go_wp2_with (first
                  | (go_at_call 19; refine HC1.out.mono ?_; rintro e w8 ⟨rfl, hb⟩; have HB8 := Aside0.mk (below_step HWB.out hb); clear hb))
                refine ⟨?_, by simp [intOf]; omega⟩
                exact ⟨k + 1, by omega, by go_num, HB8⟩
              · have hltb : decide (k < l.length) = false := decide_eq_false hlt
                go_wp2_with (first
                  | (go_at_call 10; refine (law_alive _ (HN.out.below HB0r.out)).mono ?_; rintro e w9 ⟨rfl, hb⟩; have HB9 := Aside0.mk (below_step HB0r.out hb); clear hb))
                go_ret
                exact ⟨rfl, HB9.out⟩
      · have heb : (r.e != 0) = true := by simpa using he
        clear he hr
        go_enter Tryd.func7, Tryd.ntmps7
        go_upto_region 4 with (first
          | (go_at_call 9; refine HF.out.mono ?_; rintro e w1 ⟨rfl, hb⟩; have HB1 := Aside0.mk hb; clear hb)
          | (go_at_call 11; refine (HOF.out _ HB1.out).mono ?_; rintro e w2 ⟨A1, c1, A2, c2, rfl, hle, hC2, hat, hb⟩; have HB2 := Aside0.mk (below_step HB1.out hb); clear hle hC2 hat hb))
        have hB3 : Below w2.heap.size w2 (w2.alloc (.cells #[.int .i64 r.n, .slice A1 r.l.length c1] 27)) := below_alloc (Below.refl _ _) _
        have HB3 := Aside0.mk (below_step HB2.out hB3)
        clear hB3
        generalize hW : w2.alloc (.cells #[.int .i64 r.n, .slice A1 r.l.length c1] 27) = W3 at *
        clear hW
        go_wp2_with (first
          | (go_at_call 10; refine (law_alive _ (HN.out.below HB3.out)).mono ?_; rintro e w4 ⟨rfl, hb⟩; have HB4 := Aside0.mk (below_step HB3.out hb); clear hb))
        go_ret
        exact ⟨rfl, HB4.out⟩
end Go.Proofs.YtbfgoopomfenjaaDoor
