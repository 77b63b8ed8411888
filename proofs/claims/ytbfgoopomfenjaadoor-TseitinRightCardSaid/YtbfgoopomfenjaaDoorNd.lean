import Derived.Test.YtbfgoopomfenjaaDoorNc
import Derived.Test.YtbfgoopomfenjaaDoorNb
import Derived.Lib.SliceRun
namespace Go.Proofs.YtbfgoopomfenjaaDoor
open Go.RowKit Go.Proofs.YtbfgoopomfenjaaDoorW.PrintWords Go.Proofs.YtbfgoopomfenjaaDoorW.PrintLast Go.Proofs.YtbfgoopomfenjaaDoor.PTseitinValues
set_option linter.unusedVariables false
set_option linter.unusedSimpArgs false
attribute [local go_sem] World.cell?_alloc_lt
attribute [local go_sem] run_store_fn

def RTV (w0 : World) (at_ : List S41) (vs : List Bool) (t : S41) : Prop := ∀ (A : Option Addr) (c : Nat) (B : Option Addr) (d : Nat) (Aa : Option Addr) (ca : Nat) (Av : Option Addr) (cv : Nat) (W : World), P41 w0 t A c B d → Below w0.heap.size w0 W → cparts t = 0 →
  (∀ a ∈ leaves t, 0 ≤ posn at_ a ∧ posn at_ a < vs.length) → RA w0 W Aa at_ → at_.length ≤ 1000000 → kB.C W Av vs.length vs →
  Calls Tryd.prog 46 #[v41 t A c B d, .slice Aa at_.length ca, .slice Av vs.length cv] W fun e W' => e = .returned (.bool (tv (lv at_ vs) t)) ∧ Below W.heap.size W W'

theorem T41.at0 {w : World} {ad : Addr} {t : S41} {A : Option Addr} {c : Nat} {B : Option Addr} {d : Nat} (h : T41 w (ad.add (0 * 5)) t A c B d) : T41 w ad t A c B d := by
  rw [Nat.zero_mul, add_zero_] at h; exact h
end Go.Proofs.YtbfgoopomfenjaaDoor
namespace Go.Proofs.YtbfgoopomfenjaaDoor
open Go.RowKit Go.Proofs.YtbfgoopomfenjaaDoorW.PrintWords Go.Proofs.YtbfgoopomfenjaaDoorW.PrintLast Go.Proofs.YtbfgoopomfenjaaDoor.PTseitinValues
set_option linter.unusedVariables false
set_option linter.unusedSimpArgs false
attribute [local go_sem] World.cell?_alloc_lt
attribute [local go_sem] run_store_fn

/-- Are all atoms of a claim among others? -/
def known (at_ : List S41) (t : S41) : Bool := (atomsL [t] []).all (fun a => decide (0 ≤ posn at_ a))
/-- What Holds gives. -/
def holdsB (at_ : List S41) (vs : List Bool) (t : S41) : Bool × Bool :=
  if cright t = 0 ∧ at_.length ≤ vs.length ∧ known at_ t = true then (tv (lv at_ vs) t, true) else (false, false)
/-- What Literal gives. -/
def litB (at_ : List S41) (t : S41) : Int × Bool :=
  if 0 ≤ posn at_ t then (posn at_ t + 1, true) else if t.f0 = 6 ∧ t.f4.length = 1 ∧ 0 ≤ posn at_ (t.f4.headD t) then (-(posn at_ (t.f4.headD t)) - 1, true) else (0, false)
theorem cright_parts2 {t : S41} (h : cright t = 0) : cparts t = 0 := by
  unfold cright at h
  split at h
  · exact absurd h (by decide)
  · split at h
    · exact absurd h (by decide)
    · exact h
theorem known_leaves {at_ : List S41} {t : S41} (hz : cparts t = 0) (h : known at_ t = true) (m : Nat) (hm : at_.length ≤ m) : ∀ a ∈ leaves t, 0 ≤ posn at_ a ∧ posn at_ a < m := by
  intro a ha
  unfold known at h
  rw [List.all_eq_true] at h
  have h1 := (atomsL_has (us := [t]) (fun x hx => by rw [List.mem_singleton.1 hx]; exact hz) []).2 t (by simp) a ha
  have h2 : Has at_ a := h1.trans (fun b hb => posn_has (by simpa using h b hb))
  have h3 := h2.posn
  omega
/-- A literal row of one claim. -/
theorem one_claim {W : World} {t : S41} {A : Option Addr} {c : Nat} {B : Option Addr} {d : Nat} (hP : P41 W t A c B d) : k41.C (W.alloc (.cells (c41 t A c B d) 41)) (some ⟨W.heap.size, 0, none⟩) 1 [t] := by
  have hb : Below W.heap.size W (W.alloc (.cells (c41 t A c B d) 41)) := below_alloc (Below.refl _ _) _
  have hP2 := hP.below hb
  have hx : (W.alloc (.cells (c41 t A c B d) 41)).heap[W.heap.size]? = some (.cells ([.int .i64 t.f0, .string t.f1, .string t.f2, .slice A t.f3.length c, .slice B t.f4.length d] : List Value).toArray 41 (0, 0)) := blk_new _ _
  refine ⟨rfl, by omega, fun _ => ⟨_, rfl, fun j p hj => ?_⟩⟩
  cases j with
  | zero =>
    have : t = p := by simpa using hj
    subst this
    refine ⟨[.int .i64 t.f0, .string t.f1, .string t.f2, .slice A t.f3.length c, .slice B t.f4.length d], rfl, k41_mk _ t hP2.le1 hP2.C1 hP2.le2 hP2.C2, fun i u hi => ?_⟩
    rw [Nat.zero_mul, Nat.zero_add]
    have hz : (⟨W.heap.size, 0, none⟩ : Addr).add i = ⟨W.heap.size, i, none⟩ := by
      unfold Addr.add
      split
      · rename_i h0; subst h0; rfl
      · simp
    rw [hz, blk_cell hx i]
    simpa using hi
  | succ j => simp at hj

end Go.Proofs.YtbfgoopomfenjaaDoor
namespace Go.Proofs.YtbfgoopomfenjaaDoor
open Go.RowKit Go.Proofs.YtbfgoopomfenjaaDoorW.PrintWords Go.Proofs.YtbfgoopomfenjaaDoorW.PrintLast Go.Proofs.YtbfgoopomfenjaaDoor.PTseitinValues
set_option linter.unusedVariables false
set_option linter.unusedSimpArgs false
attribute [local go_sem] World.cell?_alloc_lt
attribute [local go_sem] run_store_fn

/-- Holds' closure for the parts does nothing. -/
abbrev hInv (Wn : World) : List Bool → Value → World → Prop := fun _ v W => v = .slice none 0 0 ∧ Below Wn.heap.size Wn W
theorem hInv_ok {w0 Wn : World} (hB : Below w0.heap.size w0 Wn) : EvInv w0 Wn.heap.size (fun _ => False) (hInv Wn) where
  upd := fun out v W W' h hu => ⟨h.1, by
    obtain ⟨h1, h2⟩ := h
    exact h2.trans (hu.below h2.size (fun i e => e.1))⟩
  below := fun out v W h => hB.trans (h.2.mono hB.size)
  size := fun out v W h => h.2.size
  lt := fun out v W i h e => by
    obtain ⟨rfl, _⟩ := h
    exact e.elim (fun e => e.elim) (fun e => (Ev_nil i e).elim)
theorem hPart (w0 Wn : World) (bO m : Nat) : PART_h (hInv Wn) w0 (fun _ => False) bO m := by
  intro b out v W h hm
  have H := Aside0.mk h
  clear h
  go_enter Tryd.func44, Tryd.ntmps44
  go_wp2_with fail
  go_end0
  exact ⟨rfl, v, H.out, Upd.refl _ _, .inl rfl⟩

theorem hold_boxes (W : World) (cs : Array Value) (v u : Value) :
    Below W.heap.size W (((W.alloc (.cells cs 41)).alloc (.cells #[v] 22)).alloc (.cells #[u] 34)) ∧
    (((W.alloc (.cells cs 41)).alloc (.cells #[v] 22)).alloc (.cells #[u] 34)).heap[W.heap.size]? = some (.cells cs 41 (0, 0)) ∧
    Boxed (((W.alloc (.cells cs 41)).alloc (.cells #[v] 22)).alloc (.cells #[u] 34)) (W.heap.size + 1) 22 v ∧
    Boxed (((W.alloc (.cells cs 41)).alloc (.cells #[v] 22)).alloc (.cells #[u] 34)) (W.heap.size + 1 + 1) 34 u :=
  ⟨(((Below.refl _ _).alloc (Nat.le_refl _) _).alloc (by simp) _).alloc (by simp; omega) _, blk_alloc (blk_alloc (blk_new _ _) _) _, blk_alloc (blk_newAt _ _ _ (by simp)) _, blk_newAt _ _ _ (by simp)⟩

set_option maxRecDepth 100000 in
set_option maxHeartbeats 4000000 in
/-- tseitin.Holds. -/
theorem ts_Holds (w0 : World) (at_ : List S41) (vs : List Bool) (t : S41) (A : Option Addr) (c : Nat) (B : Option Addr) (d : Nat) (Aa : Option Addr) (ca : Nat) (Av : Option Addr) (cv : Nat) (W : World) (hP : P41 w0 t A c B d) (hB : Below w0.heap.size w0 W) (hN : Needs W) (hs : csize t ≤ 4096) (hRA : RA w0 W Aa at_) (hal : at_.length ≤ 1000000) (hVC : kB.C W Av vs.length vs) :
    Calls Tryd.prog 19 #[v41 t A c B d, .slice Aa at_.length ca, .slice Av vs.length cv] W fun e W' => e = .returned (.tuple #[.bool (holdsB at_ vs t).1, .bool (holdsB at_ vs t).2]) ∧ Below W.heap.size W W' := by
  have hvl : vs.length ≤ 9223372036854775807 := hVC.2.1
  have hmf : ∀ fn first cap w, (Instr.makeFunc fn first cap).run Tryd.prog w = .ok (.func fn first cap) w := fun _ _ _ _ => rfl
  obtain ⟨hBW, hX0, hb4, hb5⟩ := hold_boxes W (c41 t A c B d) (.slice Aa at_.length ca) (.slice Av vs.length cv)
  have X := T41.mk_box hX0 (hP.below hB) hBW
  have a0 := hb4.cell
  have v0 := hb5.cell
  have al0 := hb4.lt
  have vl0 := hb5.lt
  have HP := Aside0.mk hP
  have HS := Aside0.mk hs
  have HBb := Aside0.mk (hB.trans (hBW.mono hB.size))
  have HRA := Aside0.mk (hRA.below hBW)
  have HVC := Aside0.mk (Kd.C_below hVC hBW)
  have HN := Aside0.mk (hN.below hBW)
  have HBW := Aside0.mk hBW
  have Hb4 := Aside0.mk hb4
  have Hb5 := Aside0.mk hb5
  clear hBW hP hB hRA hVC hs hX0 hb4 hb5 hN
  by_cases hz : cright t = 0
  · have hzb : (cright t != 0) = false := by simpa using hz
    by_cases hlen : vs.length < at_.length
    · have hl1 : decide ((vs.length : Int) < (at_.length : Int)) = true := decide_eq_true (by omega)
      have hl2 : decide (vs.length < at_.length) = true := decide_eq_true hlen
      have HR : Aside0 (holdsB at_ vs t = (false, false)) := ⟨by unfold holdsB; rw [if_neg (by omega)]⟩
      go_enter Tryd.func19, Tryd.ntmps19
      go_upto_region 1 with fail
      generalize hW : ((W.alloc (.cells (c41 t A c B d) 41)).alloc (.cells #[.slice Aa at_.length ca] 22)).alloc (.cells #[.slice Av vs.length cv] 34) = W0 at *
      clear hW hz
      obtain ⟨k0, k1, k2, k3, k4, kl0, kln⟩ := X.box
      go_wp2_with (first | (go_at_call 26; refine (claim_right t A c B d _ HS.out X.P HN.out).mono ?_; rintro e w1 ⟨rfl, hb⟩; have HB1 := Aside0.mk (below_step HBW.out hb); have a1 := (Hb4.out.kept (grown_of_below hb none) (by simp)).cell; have v1 := (Hb5.out.kept (grown_of_below hb none) (by simp)).cell; clear hb))
      exact bodyPost_ret (by simp [results, Tryd.results19, go_sem]; (first | exact ⟨rfl, rfl⟩ | rfl)) rfl ⟨by rw [HR.out], HB1.out⟩
    · have hl1 : decide ((vs.length : Int) < (at_.length : Int)) = false := decide_eq_false (by omega)
      have hl2 : decide (vs.length < at_.length) = false := decide_eq_false hlen
      have hle : at_.length ≤ vs.length := by omega
      have HCP := Aside0.mk (cright_parts2 hz)
      have HZ := Aside0.mk hz
      go_enter Tryd.func19, Tryd.ntmps19
      go_upto_region 1 with fail
      generalize hW : ((W.alloc (.cells (c41 t A c B d) 41)).alloc (.cells #[.slice Aa at_.length ca] 22)).alloc (.cells #[.slice Av vs.length cv] 34) = W0 at *
      clear hW hz
      obtain ⟨k0, k1, k2, k3, k4, kl0, kln⟩ := X.box
      go_upto_region 3 with (first | (go_at_call 26; refine (claim_right t A c B d _ HS.out X.P HN.out).mono ?_; rintro e w1 ⟨rfl, hb⟩; have X1 := X.below hb; have HB1 := Aside0.mk (below_step HBW.out hb); have HBb1 := Aside0.mk (HBb.out.trans (hb.mono HBb.out.size)); have HRA1 := Aside0.mk (HRA.out.below hb); have HVC1 := Aside0.mk (Kd.C_below HVC.out hb); have Hb41 := Aside0.mk (Hb4.out.kept (grown_of_below hb none) (by simp)); have Hb51 := Aside0.mk (Hb5.out.kept (grown_of_below hb none) (by simp)); have a1 := Hb41.out.cell; have v1 := Hb51.out.cell; clear hb))
      clear k0 k1 k2 k3 k4 kl0 kln X a0 v0 al0 vl0 a1 v1
      obtain ⟨k0, k1, k2, k3, k4, kl0, kln⟩ := X1.box
      have hC1 := one_claim X1.P
      have hb2 : Below w1.heap.size w1 (w1.alloc (.cells (c41 t A c B d) 41)) := below_alloc (Below.refl _ _) _
      have HQ := Aside0.mk (prog_Atoms _ [t] (some ⟨w1.heap.size, 0, none⟩) 1 _ (Below.refl _ _) hC1 (by have := HS.out; simp; omega))
      have HX1 := Aside0.mk X1
      have HB2 := Aside0.mk (below_step HB1.out hb2)
      have HBb2 := Aside0.mk (HBb1.out.trans (hb2.mono HBb1.out.size))
      have HRA2 := Aside0.mk (HRA1.out.below hb2)
      have HVC2 := Aside0.mk (Kd.C_below HVC1.out hb2)
      have Hb42 := Aside0.mk (Hb41.out.kept (grown_of_below hb2 none) (by simp))
      have Hb52 := Aside0.mk (Hb51.out.kept (grown_of_below hb2 none) (by simp))
      have HXX := Aside0.mk (X1.below hb2)
      clear hC1 hb2 X1
      go_wp2_with (first | (go_at_call 28; refine HQ.out.mono ?_; rintro e w3 ⟨A2, c2, rfl, hat, hb3, hev⟩; have HAT := Aside0.mk hat; have HB3 := Aside0.mk hb3; clear hat hb3 hev))
      generalize hW : w1.alloc (.cells (c41 t A c B d) 41) = W2 at *
      clear hW k0 k1 k2 k3 k4 kl0 kln HQ
      obtain ⟨_, _, hra⟩ := HAT.out.RA
      have HOA := Aside0.mk hra
      clear hra
      have hol : (atomsL [t] []).length ≤ 1000000 := by
        have h1 := atomsT_len [t] [] 1
        have h2 := sumTo_le csize [t] 1
        have h3 : ([t].map csize).sum = csize t := by simp
        have := HS.out
        rw [List.take_of_length_le (by simp)] at h1
        have h4 : ([] : List S41).length = 0 := rfl
        omega
      generalize hown : atomsL [t] [] = own_ at *
      go_loopw [24] (fun i wr => ∃ k : Nat, k ≤ own_.length ∧ i = .int .i64 k ∧ Aside0 ((own_.take k).all (fun a => decide (0 ≤ posn at_ a)) = true) ∧ Aside0 (Below w3.heap.size w3 wr)) (fun i _ => own_.length - (intOf i).toNat)
      case atStart => exact ⟨0, Nat.zero_le _, rfl, ⟨rfl⟩, ⟨Below.refl _ _⟩⟩
      case round =>
        obtain ⟨k, hk, rfl, HF, HBr⟩ := hrel
        have HBr2 := Aside0.mk (below_step HB3.out HBr.out)
        have Hb4r := Aside0.mk (Hb42.out.kept (grown_of_below HBr2.out none) (by simp))
        have Hb5r := Aside0.mk (Hb52.out.kept (grown_of_below HBr2.out none) (by simp))
        have a0 := Hb4r.out.cell
        have al0 := Hb4r.out.lt
        have aln : ∀ q, W.heap.size + 1 < wr.heap.size + q := fun q => by omega
        by_cases hlt : k < own_.length
        · have hltb : decide (k < own_.length) = true := decide_eq_true hlt
          obtain ⟨x, ad, A3, c3, B3, d3, hx, rfl, Z, _⟩ := (HOA.out.below HBr.out).get HBr2.out k hlt
          obtain ⟨z0, z1, z2, z3, z4, zl0, zln⟩ := Z.cells
          have hWB : Below wr.heap.size wr (wr.alloc (.cells #[.int .i64 x.f0, .string x.f1, .string x.f2, .slice A3 x.f3.length c3, .slice B3 x.f4.length d3] 41)) := below_alloc (Below.refl _ _) _
          have HQ := Aside0.mk (ts_placeR w0 at_ x Aa ca A3 c3 B3 d3 _ ((HBb2.out.trans (HBr2.out.mono HBb2.out.size)).trans (hWB.mono (Nat.le_trans HBb2.out.size HBr2.out.size))) ((HRA2.out.below HBr2.out).below hWB) (Z.P.below hWB) hal)
          have HWB := Aside0.mk hWB
          clear Z hWB
          by_cases hp : 0 ≤ posn at_ x
          · have hp1 : decide (posn at_ x < 0) = false := decide_eq_false (by omega)
            have HF2 : Aside0 ((own_.take (k + 1)).all (fun a => decide (0 ≤ posn at_ a)) = true) := ⟨by rw [take_snoc hx, List.all_append, HF.out]; simp [hp]⟩
            clear hx hp
            generalize posn at_ x = pz at *
            go_wp2_with (first | (go_at_call 31; refine HQ.out.mono ?_; rintro e w4 ⟨rfl, hb⟩; have HB4 := Aside0.mk (below_step HBr.out (below_step HWB.out hb)); clear hb))
            refine ⟨⟨k + 1, by omega, by go_num, HF2, HB4⟩, ?_⟩
            simp [intOf]; omega
          · have hp1 : decide (posn at_ x < 0) = true := decide_eq_true (by omega)
            have HR : Aside0 (holdsB at_ vs t = (false, false)) := ⟨by
              unfold holdsB
              rw [if_neg]
              rintro ⟨_, _, h9⟩
              unfold known at h9
              rw [hown, List.all_eq_true] at h9
              have := h9 x (List.mem_of_getElem? hx)
              exact hp (by simpa using this)⟩
            clear hx hp
            generalize posn at_ x = pz at *
            go_wp2_with (first | (go_at_call 31; refine HQ.out.mono ?_; rintro e w4 ⟨rfl, hb⟩; have HB4 := Aside0.mk (below_step HBr.out (below_step HWB.out hb)); clear hb))
            exact bodyPost_ret (by simp [results, Tryd.results19, go_sem]; (first | exact ⟨rfl, rfl⟩ | rfl)) rfl ⟨by rw [HR.out], HB2.out.trans ((below_step HB3.out HB4.out).mono HB2.out.size)⟩
        · have hltb : decide (k < own_.length) = false := decide_eq_false hlt
          have hkn : known at_ t = true := by
            have h1 := HF.out
            rw [List.take_of_length_le (by omega)] at h1
            unfold known; rw [hown]; exact h1
          have HR : Aside0 (holdsB at_ vs t = (tv (lv at_ vs) t, true)) := ⟨by unfold holdsB; rw [if_pos ⟨HZ.out, hle, hkn⟩]⟩
          have Xr := HXX.out.below HBr2.out
          obtain ⟨m0, m1, m2, m3, m4, ml0, mln⟩ := Xr.box
          have hBr : Below w0.heap.size w0 wr := HBb2.out.trans (HBr2.out.mono HBb2.out.size)
          have hLB : LeafBoxes w0 at_ vs (W.heap.size + 1 + 1) (W.heap.size + 1) wr := ⟨hBr, ⟨Aa, ca, Hb4r.out, HRA2.out.below HBr2.out⟩, ⟨Av, cv, Hb5r.out, Kd.C_below HVC2.out HBr2.out⟩, hal⟩
          have HQ := Aside0.mk (ev_all_h w0 at_ vs (W.heap.size + 1 + 1) (W.heap.size + 1) 0 100000 wr.heap.size (by omega) (fun _ => False) (hInv wr) (hInv_ok hBr) (fun out v V h => hLB.step h.2) (hPart w0 wr 0 100000) _ t (Nat.le_refl _) A c B d [] (.slice none 0 0) wr HP.out HCP.out (known_leaves HCP.out hkn _ hle) ⟨rfl, Below.refl _ _⟩ (by have := HS.out; simp; omega))
          clear hkn Xr hBr hLB
          go_wp2_with (first | (go_at_call 38; refine HQ.out.mono ?_; rintro e w4 ⟨rfl, v4, hi4, _, _⟩; have HB4 := Aside0.mk (below_step HBr2.out hi4.2); clear hi4))
          exact bodyPost_ret (by simp [results, Tryd.results19, go_sem]; (first | exact ⟨rfl, rfl⟩ | rfl)) rfl ⟨by rw [HR.out], HB2.out.trans (HB4.out.mono HB2.out.size)⟩
  · have hzb : (cright t != 0) = true := by simpa using hz
    have HR : Aside0 (holdsB at_ vs t = (false, false)) := ⟨by unfold holdsB; rw [if_neg (fun h => hz h.1)]⟩
    go_enter Tryd.func19, Tryd.ntmps19
    go_upto_region 1 with fail
    generalize hW : ((W.alloc (.cells (c41 t A c B d) 41)).alloc (.cells #[.slice Aa at_.length ca] 22)).alloc (.cells #[.slice Av vs.length cv] 34) = W0 at *
    clear hW hz
    obtain ⟨k0, k1, k2, k3, k4, kl0, kln⟩ := X.box
    go_wp2_with (first | (go_at_call 26; refine (claim_right t A c B d _ HS.out X.P HN.out).mono ?_; rintro e w1 ⟨rfl, hb⟩; have HB1 := Aside0.mk (below_step HBW.out hb); clear hb))
    exact bodyPost_ret (by simp [results, Tryd.results19, go_sem]; (first | exact ⟨rfl, rfl⟩ | rfl)) rfl ⟨by rw [HR.out], HB1.out⟩
end Go.Proofs.YtbfgoopomfenjaaDoor
namespace Go.Proofs.YtbfgoopomfenjaaDoor
open Go.RowKit Go.Proofs.YtbfgoopomfenjaaDoorW.PrintWords Go.Proofs.YtbfgoopomfenjaaDoorW.PrintLast Go.Proofs.YtbfgoopomfenjaaDoor.PTseitinValues
set_option linter.unusedVariables false
set_option linter.unusedSimpArgs false
attribute [local go_sem] World.cell?_alloc_lt
attribute [local go_sem] run_store_fn

/-- What Values gives. -/
def valsB (cs : List S41) (vs : List Bool) : List Bool × Bool :=
  if (ofR cs).e = 0 ∧ (ofR cs).at_.length = vs.length then (vs ++ pvL (lv (ofR cs).at_ vs) cs, true) else ([], false)
def ValsOut (r : List Bool × Bool) (W : World) (e : Ending) (W' : World) : Prop :=
  ∃ A1 c1, e = .returned (.tuple #[.slice A1 r.1.length c1, .bool r.2]) ∧ r.1.length ≤ c1 ∧ kB.C W' A1 r.1.length r.1 ∧ Below W.heap.size W W'
/-- Where Of goes through: all are right, the atoms are theirs. -/
theorem ofR_ok {cs : List S41} (h : (ofR cs).e = 0) : (ofR cs).at_ = atomsL cs [] ∧ (∀ x ∈ cs, cright x = 0) ∧ (ofR cs).at_.length ≤ 1024 := by
  unfold ofR at h ⊢
  split at h
  · rename_i h1; exact absurd h h1
  · rename_i h1
    rw [if_neg h1]
    have h1 : firstNZ (cs.map cright) = 0 := Decidable.not_not.1 h1
    have key : ∀ (at_ cs : List S41) (st st' : LS), topR at_ cs st = some st' → st.n ≤ st'.n := by
      intro at_ cs
      induction cs with
      | nil => intro st st' h; rw [topR] at h; injection h with h; rw [h]; exact Nat.le_refl _
      | cons c cs ih =>
        intro st st' h
        rw [topR] at h
        split at h
        · cases h
        · have h3 := ih _ _ h
          have h4 := (layC_bound false at_ _ c st (Nat.le_refl _)).1
          exact Nat.le_trans h4 h3
    have h5 := key (atomsL cs []) cs ⟨(atomsL cs []).length, []⟩
    generalize topR (atomsL cs []) cs ⟨(atomsL cs []).length, []⟩ = o at h h5 ⊢
    cases o with
    | none => exact absurd h (show ¬ ((2 : Int) = 0) by decide)
    | some st =>
      have e : ofEnd (atomsL cs []) (some st) = if 1024 < st.n then tooLong else ⟨st.n, st.l, atomsL cs [], 0⟩ := rfl
      rw [e] at h ⊢
      by_cases h2 : 1024 < st.n
      · rw [if_pos h2] at h
        exact absurd h (show ¬ ((2 : Int) = 0) by decide)
      · rw [if_neg h2]
        have h6 : (atomsL cs []).length ≤ st.n := h5 st rfl
        refine ⟨rfl, fun x hx => firstNZ_zero.1 h1 _ (List.mem_map_of_mem hx), ?_⟩
        show (atomsL cs []).length ≤ 1024
        omega
theorem bools_reads {W : World} {A : Option Addr} {n : Nat} {xs : List Bool} (h : kB.C W A n xs) : ReadsOf Value.bool false W A n xs := by
  refine ⟨h.1, h.2.1, fun hn => ?_⟩
  obtain ⟨_, ad, _, rfl, _, _⟩ := atB h 0 hn
  refine ⟨ad, rfl, fun j hj => ?_⟩
  obtain ⟨x, ad', hx, he, hc, _⟩ := atB h j hj
  obtain rfl : ad = ad' := by injection he
  rw [hc, List.getD_eq_getElem?_getD, hx]
  rfl

end Go.Proofs.YtbfgoopomfenjaaDoor
namespace Go.Proofs.YtbfgoopomfenjaaDoor
open Go.RowKit Go.Proofs.YtbfgoopomfenjaaDoorW.PrintWords Go.Proofs.YtbfgoopomfenjaaDoorW.PrintLast Go.Proofs.YtbfgoopomfenjaaDoor.PTseitinValues
set_option linter.unusedVariables false
set_option linter.unusedSimpArgs false
attribute [local go_sem] World.cell?_alloc_lt
attribute [local go_sem] run_store_fn

def CloneOut (xs : List Bool) (W : World) (e : Ending) (W' : World) : Prop :=
  ∃ A1 c1, e = .returned (.slice A1 xs.length c1) ∧ W'.ownsRow W.heap.size 4 1 (.slice A1 xs.length c1) xs.length (bls xs) ∧ Below W.heap.size W W'
set_option maxHeartbeats 1000000 in
/-- slices.Clone of bools. -/
theorem ts_Clone (xs : List Bool) (A : Option Addr) (c : Nat) (W : World) (h : kB.C W A xs.length xs) (hl : xs.length ≤ 1000000) : Calls Tryd.prog 37 #[.slice A xs.length c] W (CloneOut xs W) := by
  have qT : ∀ (w : World) (a : Option Addr) (n c n' c' : Nat), (binOp .eql 34 (.slice a n c) (.slice none n' c')).run Tryd.prog w = .ok (.bool a.isNone) w := fun w a n c n' c' => Lib.run_eql_slice_nil w _ _ a n c n' c' Tryd.underlying34
  rcases A with _ | ad
  · have h0 : xs = [] := by
      cases xs with
      | nil => rfl
      | cons x xs => obtain ⟨_, ad, _, he, _, _⟩ := atB h 0 (by simp); cases he
    subst h0
    clear h hl
    go_enter Tryd.func37, Tryd.ntmps37
    go_wp2_with fail
    go_ret
    exact ⟨none, 0, rfl, own_nil _ _ _ _, Below.refl _ _⟩
  · have HR := Aside0.mk (bools_reads h)
    have hB : Below W.heap.size W (W.alloc (.cells #[] 4)) := below_alloc (Below.refl _ _) _
    have HB := Aside0.mk hB
    have HO := Aside0.mk (show (W.alloc (.cells #[] 4)).ownsRow W.heap.size 4 1 (.slice (some ⟨W.heap.size, 0, none⟩) 0 0) ([] : List Bool).length (bls []) from by
      have h9 := World.ownsRow_lit (base := W.heap.size) (e := 4) (size := 1) W #[] 0 (Nat.le_refl _) (by decide) (by simp)
      simpa [encs] using h9)
    clear h hB
    go_enter Tryd.func37, Tryd.ntmps37
    go_wp2_with (first | (at_builtin; refine print_append_row_of (w0 := W) Value.bool false W.heap.size rfl (.tmp 5) (.tmp 6) 34 4 (.bool false) 1 rfl Tryd.underlying34 info4 rfl (by omega) (fun _ => rfl) (.slice (some ⟨W.heap.size, 0, none⟩) 0 0) [] xs (some ad) xs.length c rfl rfl HO.out (HR.out.below HB.out) HB.out HB.out.size (by simp; omega) ?_; intro v4 w4 ho4 hb4 hg4 hat4; have HO4 := Aside0.mk ho4; have HB4 := Aside0.mk hb4; clear ho4 hb4 hg4 hat4))
    go_ret
    rw [List.nil_append] at HO4
    obtain ⟨A4, c4, rfl⟩ := own_slice HO4.out
    exact ⟨A4, c4, rfl, HO4.out, HB4.out⟩

/-- What Values' closure for the parts keeps. -/
abbrev vInv (w0 Wn : World) (bO : Nat) (v0 : Value) : List Bool → Value → World → Prop := fun out v W =>
  Upd (E0v (fun i => i = bO) v0) Wn W ∧ OwnStep Wn.heap.size v0 v ∧ ∃ A c, v = .slice A out.length c ∧ Boxed W bO 34 v ∧ W.ownsRow w0.heap.size 4 1 v out.length (bls out)
theorem vInv_ok {w0 Wn : World} {bO : Nat} {v0 : Value} (hB : Below w0.heap.size w0 Wn) (hb : w0.heap.size ≤ bO) (hbl : bO < Wn.heap.size) (hv : ∀ i, Ev v0 i → w0.heap.size ≤ i) : EvInv w0 Wn.heap.size (fun i => i = bO) (vInv w0 Wn bO v0) where
  upd := fun out v W W' h hu => by
    obtain ⟨h1, h2, A, c, rfl, h3, h4⟩ := h
    refine ⟨⟨hu.os.trans h1.os, hu.tape.trans h1.tape, hu.output.trans h1.output, Nat.le_trans h1.size hu.size, fun i hi he => (hu.block i (Nat.lt_of_lt_of_le hi h1.size) (fun e => by have := e.1; omega)).trans (h1.block i hi he)⟩, h2, A, c, rfl, ?_, ?_⟩
    · exact hu.boxed h3 (fun e => by have := e.1; omega)
    · exact own_move h4 (fun k hk => hu.block k (own_lt h4 k hk) (fun e => e.2 hk))
  below := fun out v W h => hB.trans (h.1.below hB.size (fun i e => e.elim (fun e => by omega) (fun e => hv i e)))
  size := fun out v W h => h.1.size
  lt := fun out v W i h e => by
    obtain ⟨h1, h2, A, c, rfl, h3, h4⟩ := h
    rcases e with e | e
    · subst e; exact ⟨hb, h3.lt⟩
    · exact ⟨own_base h4 i e, own_lt h4 i e⟩
set_option maxHeartbeats 2000000 in
theorem vPart (w0 Wn : World) (bO m : Nat) (v0 : Value) (hm6 : m ≤ 1000000) (hB : Below w0.heap.size w0 Wn) : PART_v (vInv w0 Wn bO v0) w0 (fun i => i = bO) bO m := by
  intro b out v W h hm
  obtain ⟨h1, h2, A, c, rfl, h3, h4⟩ := h
  have H1 := Aside0.mk h1
  have H2 := Aside0.mk h2
  have H3 := Aside0.mk h3
  have H4 := Aside0.mk h4
  have H0 : Aside0 (w0.heap.size ≤ W.heap.size) := ⟨Nat.le_trans hB.size h1.size⟩
  have b0 := h3.cell
  have bf := h3.frozen
  have bl := h3.lt
  have bln : ∀ q, bO < W.heap.size + q := fun q => by omega
  clear h1 h2 h3 h4 hB
  go_enter Tryd.func40, Tryd.ntmps40
  go_wp2_with (first | (at_builtin; refine print_append_of (w0 := W) Value.bool w0.heap.size rfl (.tmp 3) (.tmp 5) 34 4 (.bool false) 1 rfl Tryd.underlying34 info4 rfl (by omega) (.slice A out.length c) out b rfl rfl rfl H4.out (Below.refl _ _) H0.out (by omega) ?_; intro v3 w3 ho3 hb3 hg3 hat3; have h33 := H3.out.kept hg3 (own_ne H4.out H3.out (by decide)); have HO3 := Aside0.mk ho3; have HG3 := Aside0.mk hg3; have HT3 := Aside0.mk hat3; have HB33 := Aside0.mk h33; have d0 := h33.cell; have df := h33.frozen; have dl := h33.lt; obtain ⟨A5, c5, hv5⟩ := own_slice ho3; subst hv5; clear ho3 hb3 hg3 hat3 h33))
  go_end0
  have hlen : (out ++ [b]).length = out.length + 1 := by simp
  have hu : Upd (E0v (fun i => i = bO) (.slice A out.length c)) W (w3.setCell ⟨bO, 0, none⟩ (.slice A5 (out.length + 1) c5)) := ((Upd.refl _ W).grown HG3.out (fun r e _ => .inr e)).setCell (p := ⟨bO, 0, none⟩) (.inl rfl) _
  have ho := HO3.out
  rw [hlen] at ho
  have ht := HT3.out
  rw [hlen] at ht
  refine ⟨rfl, .slice A5 (out.length + 1) c5, ⟨H1.out.ownE H2.out hu, H2.out.trans ?_ H1.out.size, A5, c5, by rw [hlen], HB33.out.set _, ?_⟩, hu, ?_⟩
  · exact ht
  · rw [hlen]
    exact own_setCell ho (p := ⟨bO, 0, none⟩) (own_ne ho HB33.out (by decide)) _
  · exact ht
end Go.Proofs.YtbfgoopomfenjaaDoor
namespace Go.Proofs.YtbfgoopomfenjaaDoor
open Go.RowKit Go.Proofs.YtbfgoopomfenjaaDoorW.PrintWords Go.Proofs.YtbfgoopomfenjaaDoorW.PrintLast Go.Proofs.YtbfgoopomfenjaaDoor.PTseitinValues
set_option linter.unusedVariables false
set_option linter.unusedSimpArgs false
attribute [local go_sem] World.cell?_alloc_lt
attribute [local go_sem] run_store_fn

set_option maxRecDepth 100000 in
set_option maxHeartbeats 4000000 in
/-- tseitin.Values. -/
theorem ts_Values (w0 : World) (cs : List S41) (A : Option Addr) (c : Nat) (vs : List Bool) (Av : Option Addr) (cv : Nat) (W : World) (hB : Below w0.heap.size w0 W) (hC : k41.C w0 A cs.length cs) (hVC : kB.C w0 Av vs.length vs) (hvl : vs.length ≤ 10000) (hN : Needs W) (hs : ∀ x ∈ cs, csize x ≤ 4096) (hsum : (cs.map csize).sum ≤ 900000) :
    Calls Tryd.prog 15 #[.slice A cs.length c, .slice Av vs.length cv] W (ValsOut (valsB cs vs) W) := by
  have hla := hC.2.1
  have hmf : ∀ fn first cap w, (Instr.makeFunc fn first cap).run Tryd.prog w = .ok (.func fn first cap) w := fun _ _ _ _ => rfl
  have hBW : Below W.heap.size W (W.alloc (.cells #[.slice Av vs.length cv] 34)) := below_alloc (Below.refl _ _) _
  have hbV : Boxed (W.alloc (.cells #[.slice Av vs.length cv] 34)) W.heap.size 34 (.slice Av vs.length cv) := Boxed.new W 34 _
  have HQ := Aside0.mk (prog_Of w0 cs A c _ (hB.trans (hBW.mono hB.size)) hC (hN.below hBW) hs hsum)
  have HC := Aside0.mk hC
  have HVC := Aside0.mk hVC
  have HB := Aside0.mk (hB.trans (hBW.mono hB.size))
  have HBW := Aside0.mk hBW
  have HbV := Aside0.mk hbV
  have HSUM := Aside0.mk hsum
  have HW0 : Aside0 (w0.heap.size ≤ W.heap.size) := ⟨hB.size⟩
  clear hC hVC hB hs hsum hBW hbV hN
  have HOK := Aside0.mk (@ofR_ok cs)
  have HV : Aside0 (valsB cs vs = if (ofR cs).e = 0 ∧ (ofR cs).at_.length = vs.length then (vs ++ pvL (lv (ofR cs).at_ vs) cs, true) else ([], false)) := ⟨rfl⟩
  generalize hr : ofR cs = r at *
  generalize hvr : valsB cs vs = V at *
  clear hvr
  by_cases he : r.e = 0
  · have heb : (r.e != 0) = false := by simpa using he
    obtain ⟨h1, h2, h3⟩ := HOK.out he
    by_cases hl : r.at_.length = vs.length
    · have hl1 : ((r.at_.length : Int) != (vs.length : Int)) = false := by rw [hl]; simp
      have HR : Aside0 (V = (vs ++ pvL (lv r.at_ vs) cs, true)) := ⟨HV.out.trans (if_pos ⟨he, hl⟩)⟩
      have HCP : Aside0 (∀ x ∈ cs, cparts x = 0) := ⟨fun x hx => by
        have h := h2 x hx
        unfold cright at h
        split at h
        · exact absurd h (by decide)
        · split at h
          · exact absurd h (by decide)
          · exact h⟩
      have HLV : Aside0 (∀ x ∈ cs, ∀ a ∈ leaves x, 0 ≤ posn r.at_ a ∧ posn r.at_ a < vs.length) := ⟨fun x hx a ha => by
        have h5 := ((atomsL_has HCP.out []).2 x hx a ha).posn
        rw [← h1, hl] at h5
        exact h5⟩
      have HAL := Aside0.mk h3
      have HL := Aside0.mk hl
      clear h1 h2 h3 HOK HV he hl
      go_enter Tryd.func15, Tryd.ntmps15
      go_upto_region 1 with fail
      generalize hW : W.alloc (.cells #[.slice Av vs.length cv] 34) = W1 at *
      clear hW
      go_upto_region 2 with (first | (go_at_call 11; refine HQ.out.mono ?_; rintro e w2 ⟨A1, c1, A2, c2, rfl, hle, hC2, hat, hb⟩; have HAT2 := Aside0.mk hat; have HB2 := Aside0.mk hb; clear hle hC2 hat hb))
      have hB3 : Below w2.heap.size w2 ((w2.alloc (.cells #[.int .i64 r.n, .slice A1 r.l.length c1] 27)).alloc (.cells #[.slice A2 r.at_.length c2] 22)) := ((Below.refl _ _).alloc (Nat.le_refl _) _).alloc (by simp) _
      have HAT3 := Aside0.mk (HAT2.out.upd (Upd.of_below (E := fun _ => False) hB3) (fun _ _ h => h))
      have HB3 := Aside0.mk (below_step HB2.out hB3)
      have HbA := Aside0.mk (show Boxed ((w2.alloc (.cells #[.int .i64 r.n, .slice A1 r.l.length c1] 27)).alloc (.cells #[.slice A2 r.at_.length c2] 22)) (w2.heap.size + 1) 22 (.slice A2 r.at_.length c2) from blk_newAt _ _ _ (by simp))
      clear hB3
      generalize hW : (w2.alloc (.cells #[.int .i64 r.n, .slice A1 r.l.length c1] 27)).alloc (.cells #[.slice A2 r.at_.length c2] 22) = W3 at *
      clear hW
      have HbV3 := Aside0.mk (HbV.out.kept (grown_of_below HB3.out none) (by simp))
      have HB03 := Aside0.mk (HB.out.trans (HB3.out.mono HB.out.size))
      have HW2 : Aside0 (w0.heap.size ≤ w2.heap.size) := ⟨Nat.le_trans HB.out.size HB2.out.size⟩
      have v0 := HbV3.out.cell
      have vl := HbV3.out.lt
      have a0 := HbA.out.cell
      have al := HbA.out.lt
      generalize hbA : w2.heap.size = bA at *
      clear hbA
      go_upto_region 5 with (first | (go_at_call 37; refine (ts_Clone vs Av cv _ (Kd.C_below HVC.out HB03.out) (by omega)).mono ?_; rintro e w4 ⟨A4, c4, rfl, ho4, hb4⟩; have HO4 := Aside0.mk ho4; have HB4 := Aside0.mk hb4; clear ho4 hb4))
      have hb5 : Below w4.heap.size w4 (w4.alloc (.cells #[.slice A4 vs.length c4] 34)) := below_alloc (Below.refl _ _) _
      have HbO := Aside0.mk (Boxed.new w4 34 (.slice A4 vs.length c4))
      have HO5 := Aside0.mk (pw_own_below HO4.out hb5)
      have HB45 := Aside0.mk (below_step HB4.out hb5)
      have HbON : Aside0 (W3.heap.size ≤ w4.heap.size) := ⟨HB4.out.size⟩
      clear hb5 v0 vl a0 al
      generalize hW : w4.alloc (.cells #[.slice A4 vs.length c4] 34) = Wn at *
      clear hW
      generalize hbO : w4.heap.size = bO at *
      clear hbO
      have HB0n := Aside0.mk (HB03.out.trans (HB45.out.mono HB03.out.size))
      have HATn := Aside0.mk (HAT3.out.upd (Upd.of_below (E := fun _ => False) HB45.out) (fun _ _ h => h))
      have HbVn := Aside0.mk (HbV3.out.kept (grown_of_below HB45.out none) (by simp))
      have HbAn := Aside0.mk (HbA.out.kept (grown_of_below HB45.out none) (by simp))
      have hbV3 := HbV3.out.lt
      have hbA3 := HbA.out.lt
      have HO0 := Aside0.mk (own_weaken HO5.out HB03.out.size)
      have HEv : Aside0 (∀ i, Ev (.slice A4 vs.length c4) i → W3.heap.size ≤ i) := ⟨fun i e => own_base HO5.out i e⟩
      have HIV := Aside0.mk (vInv_ok (w0 := w0) (Wn := Wn) (bO := bO) (v0 := .slice A4 vs.length c4) HB0n.out (Nat.le_trans HB03.out.size HbON.out) HbO.out.lt (fun i e => Nat.le_trans HB03.out.size (HEv.out i e)))
      have HLB : Aside0 (∀ out v V, vInv w0 Wn bO (.slice A4 vs.length c4) out v V → LeafBoxes w0 r.at_ vs W.heap.size (bA + 1) V) := ⟨fun out v V h => by
        have hne1 : ¬ E0v (fun i => i = bO) (.slice A4 vs.length c4) W.heap.size := fun e => e.elim (fun e => by have := HbON.out; omega) (fun e => by have := HEv.out _ e; omega)
        have hne2 : ¬ E0v (fun i => i = bO) (.slice A4 vs.length c4) (bA + 1) := fun e => e.elim (fun e => by have := HbON.out; omega) (fun e => by have := HEv.out _ e; omega)
        have hAT := HATn.out.upd h.1 (fun i hi e => e.elim (fun e => by subst e; exact OwnRow.ne_block HATn.out HbO.out (by decide) hi.symm) (fun e => by obtain ⟨_, o1, _⟩ := HATn.out; exact own_types o1 HO0.out (by decide) i hi e))
        have hB9 := HIV.out.below _ _ _ h
        exact ⟨hB9, ⟨A2, c2, h.1.boxed HbAn.out hne2, hAT.RA.2.2⟩, ⟨Av, cv, h.1.boxed HbVn.out hne1, Kd.C_below HVC.out hB9⟩, by have := HAL.out; omega⟩⟩
      have HPA := Aside0.mk (vPart w0 Wn bO 1000000 (.slice A4 vs.length c4) (by omega) HB0n.out)
      go_wp2_with fail
      go_loopw [31] (fun i wr => ∃ (k : Nat) (v : Value), k ≤ cs.length ∧ i = .int .i64 k ∧ Aside0 (vInv w0 Wn bO (.slice A4 vs.length c4) (vs ++ pvL (lv r.at_ vs) (cs.take k)) v wr)) (fun i _ => cs.length - (intOf i).toNat)
      case atStart =>
        exact ⟨0, .slice A4 vs.length c4, Nat.zero_le _, rfl, ⟨Upd.refl _ _, .inl rfl, A4, c4, by rw [List.take_zero, pvL, List.append_nil], HbO.out, by rw [List.take_zero, pvL, List.append_nil]; exact HO0.out⟩⟩
      case round =>
        obtain ⟨k, v, hk, rfl, HI⟩ := hrel
        have HBk := Aside0.mk (HIV.out.below _ _ _ HI.out)
        by_cases hlt : k < cs.length
        · have hltb : decide (k < cs.length) = true := decide_eq_true hlt
          obtain ⟨x, ad, A3, c3, B3, d3, hx, rfl, Z0⟩ := at41 HC.out k hlt
          have Z := Z0.below HBk.out
          obtain ⟨z0, z1, z2, z3, z4, zl0, zln⟩ := Z.cells
          have HE2 := Aside0.mk (pvL_take (lv r.at_ vs) hx)
          have hbound : (vs ++ pvL (lv r.at_ vs) (cs.take k)).length + csize x ≤ 1000000 := by
            rw [List.length_append]
            have h3 := sumTo_step csize hx
            have h4 := sumTo_le csize cs (k + 1)
            have h5 : (pvL (lv r.at_ vs) (cs.take k)).length ≤ sumTo csize cs k := pvL_len _ _ _
            have := HSUM.out
            omega
          have hWB : Below wr.heap.size wr (wr.alloc (.cells #[.int .i64 x.f0, .string x.f1, .string x.f2, .slice A3 x.f3.length c3, .slice B3 x.f4.length d3] 41)) := below_alloc (Below.refl _ _) _
          have HC1 := Aside0.mk (ev_all_v w0 r.at_ vs W.heap.size (bA + 1) bO 1000000 Wn.heap.size (by omega) (fun i => i = bO) (vInv w0 Wn bO (.slice A4 vs.length c4)) HIV.out HLB.out HPA.out _ x (Nat.le_refl _) A3 c3 B3 d3 (vs ++ pvL (lv r.at_ vs) (cs.take k)) v _ Z0.P (HCP.out x (List.mem_of_getElem? hx)) (HLV.out x (List.mem_of_getElem? hx)) (HIV.out.bel HI.out hWB) hbound)
          clear hx Z0 hbound hWB
          generalize hst : vs ++ pvL (lv r.at_ vs) (cs.take k) = R at *
          go_wp2_with (first
            | (go_at_call 38; refine HC1.out.mono ?_; rintro e w5 ⟨rfl, v5, hi5, _, _⟩; have HI5 := Aside0.mk hi5; clear hi5))
          refine ⟨?_, by simp [intOf]; omega⟩
          have hE3 : vs ++ pvL (lv r.at_ vs) (cs.take (k + 1)) = R ++ pv (lv r.at_ vs) x := by rw [HE2.out, ← List.append_assoc, hst]
          exact ⟨k + 1, v5, by omega, by go_num, ⟨by rw [hE3]; exact HI5.out⟩⟩
        · have hltb : decide (k < cs.length) = false := decide_eq_false hlt
          have htk : cs.take k = cs := List.take_of_length_le (by omega)
          rw [htk] at HI
          generalize hst : vs ++ pvL (lv r.at_ vs) cs = R at *
          obtain ⟨⟨i1, i2, A9, c9, rfl, i3, i4⟩⟩ := HI
          obtain ⟨_, q2, q3⟩ := bls_C i4
          have HC9 := Aside0.mk q3
          have HBe := Aside0.mk (HBW.out.trans (HB3.out.mono HBW.out.size))
          have HBe2 := Aside0.mk ((HBe.out.trans (HB45.out.mono HBe.out.size)).trans (i1.below (HBe.out.trans (HB45.out.mono HBe.out.size)).size (fun i e => e.elim (fun e => by have := HbON.out; have := HBe.out.size; omega) (fun e => Nat.le_trans HBe.out.size (HEv.out i e)))))
          have d0 := i3.cell
          have dl := i3.lt
          clear q3 i1 i2 i3 i4
          go_wp2_with fail
          refine bodyPost_ret (v := .tuple #[.slice A9 R.length c9, .bool true]) (by simp [results, Tryd.results15, go_sem]) rfl ?_
          rw [HR.out]
          exact ⟨A9, c9, rfl, q2, HC9.out, HBe2.out⟩
    · have hl1 : ((r.at_.length : Int) != (vs.length : Int)) = true := by rw [bne_iff_ne]; omega
      have HR : Aside0 (V = ([], false)) := ⟨HV.out.trans (if_neg (fun h => hl h.2))⟩
      clear h1 h2 h3 HOK HV
      go_enter Tryd.func15, Tryd.ntmps15
      go_upto_region 1 with fail
      generalize hW : W.alloc (.cells #[.slice Av vs.length cv] 34) = W1 at *
      clear hW
      go_upto_region 2 with (first | (go_at_call 11; refine HQ.out.mono ?_; rintro e w2 ⟨A1, c1, A2, c2, rfl, hle, hC2, hat, hb⟩; have HB2 := Aside0.mk hb; have v2 := (HbV.out.kept (grown_of_below hb none) (by simp)).cell; have vl2 := (HbV.out.kept (grown_of_below hb none) (by simp)).lt; have vln : ∀ q, W.heap.size < w2.heap.size + q := (fun q => by omega); clear hle hC2 hat hb))
      have hB3 : Below w2.heap.size w2 ((w2.alloc (.cells #[.int .i64 r.n, .slice A1 r.l.length c1] 27)).alloc (.cells #[.slice A2 r.at_.length c2] 22)) := ((Below.refl _ _).alloc (Nat.le_refl _) _).alloc (by simp) _
      go_wp2_with fail
      refine bodyPost_ret (v := .tuple #[.slice none 0 0, .bool false]) (by simp [results, Tryd.results15, go_sem]) rfl ?_
      rw [HR.out]
      exact ⟨none, 0, rfl, Nat.le_refl _, C_nil _ _, HBW.out.trans ((below_step HB2.out hB3).mono HBW.out.size)⟩
  · have heb : (r.e != 0) = true := by simpa using he
    have HR : Aside0 (V = ([], false)) := ⟨HV.out.trans (if_neg (fun h => he h.1))⟩
    clear HOK HV he
    go_enter Tryd.func15, Tryd.ntmps15
    go_upto_region 1 with fail
    generalize hW : W.alloc (.cells #[.slice Av vs.length cv] 34) = W1 at *
    clear hW
    go_upto_region 2 with (first | (go_at_call 11; refine HQ.out.mono ?_; rintro e w2 ⟨A1, c1, A2, c2, rfl, hle, hC2, hat, hb⟩; have HB2 := Aside0.mk hb; clear hle hC2 hat hb))
    have hB3 : Below w2.heap.size w2 ((w2.alloc (.cells #[.int .i64 r.n, .slice A1 r.l.length c1] 27)).alloc (.cells #[.slice A2 r.at_.length c2] 22)) := ((Below.refl _ _).alloc (Nat.le_refl _) _).alloc (by simp) _
    go_wp2_with fail
    refine bodyPost_ret (v := .tuple #[.slice none 0 0, .bool false]) (by simp [results, Tryd.results15, go_sem]) rfl ?_
    rw [HR.out]
    exact ⟨none, 0, rfl, Nat.le_refl _, C_nil _ _, HBW.out.trans ((below_step HB2.out hB3).mono HBW.out.size)⟩
end Go.Proofs.YtbfgoopomfenjaaDoor
