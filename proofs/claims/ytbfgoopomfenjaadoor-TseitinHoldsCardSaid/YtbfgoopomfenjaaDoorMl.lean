import Derived.Test.YtbfgoopomfenjaaDoorMk
import Derived.Test.YtbfgoopomfenjaaDoorMj
namespace Go.Proofs.YtbfgoopomfenjaaDoor
open Go.RowKit Go.Proofs.YtbfgoopomfenjaaDoorW.PrintWords Go.Proofs.YtbfgoopomfenjaaDoorW.PrintLast Go.Proofs.YtbfgoopomfenjaaDoor.PTseitinValues
set_option linter.unusedVariables false
set_option linter.unusedSimpArgs false
attribute [local go_sem] World.cell?_alloc_lt
attribute [local go_sem] run_store_fn

def RTV (w0 : World) (at_ : List S41) (vs : List Bool) (t : S41) : Prop := ∀ (A : Option Addr) (c : Nat) (B : Option Addr) (d : Nat) (Aa : Option Addr) (ca : Nat) (Av : Option Addr) (cv : Nat) (W : World), P41 w0 t A c B d → Below w0.heap.size w0 W → cparts t = 0 →
  (∀ a ∈ leaves t, 0 ≤ posn at_ a ∧ posn at_ a < vs.length) → RA w0 W Aa at_ → at_.length ≤ 1000000 → kB.C W Av vs.length vs →
  Calls Tryd.prog 46 #[v41 t A c B d, .slice Aa at_.length ca, .slice Av vs.length cv] W fun e W' => e = .returned (.bool (tv (lv at_ vs) t)) ∧ Below W.heap.size W W'

theorem T41.at0 {w : World} {ad : Addr} {t : S41} {A : Option Addr} {c : Nat} {B : Option Addr} {d : Nat} (h : T41 w (ad.add (0 * 5)) t A c B d) : T41 w ad t A c B d := by
  rw [Nat.zero_mul, add_zero_] at h; exact h
theorem T41.at1 {w : World} {ad : Addr} {t : S41} {A : Option Addr} {c : Nat} {B : Option Addr} {d : Nat} (h : T41 w (ad.add (1 * 5)) t A c B d) :
    w.cell? ⟨ad.block, ad.off + 5, none⟩ = some (.int .i64 t.f0) ∧ w.cell? ⟨ad.block, ad.off + 6, none⟩ = some (.string t.f1) ∧ w.cell? ⟨ad.block, ad.off + 7, none⟩ = some (.string t.f2) ∧ w.cell? ⟨ad.block, ad.off + 8, none⟩ = some (.slice A t.f3.length c) ∧ w.cell? ⟨ad.block, ad.off + 9, none⟩ = some (.slice B t.f4.length d) := by
  have e : ad.add (1 * 5) = ⟨ad.block, ad.off + 5, none⟩ := by
    have h := add_field ad 0 5 (by omega)
    rwa [add_zero_] at h
  obtain ⟨h0, h1, h2, h3, h4, _⟩ := h
  rw [e] at h0 h1 h2 h3 h4
  exact ⟨h0, h1, h2, h3, h4⟩

set_option maxRecDepth 100000 in
set_option maxHeartbeats 4000000 in
theorem rt_leaf (w0 : World) (at_ : List S41) (vs : List Bool) (t : S41) (hp : isPart t.f0 = false) : RTV w0 at_ vs t := by
  intro A c B d Aa ca Av cv W hP hB hR hlv hRA hal hVC
  obtain ⟨⟨h1, h2⟩, _, _⟩ := cparts_ok hR
  obtain ⟨p1, p2⟩ := hlv t (by rw [leaves_eq, if_neg (by rw [hp]; decide)]; simp)
  obtain ⟨k, hk⟩ := Int.eq_ofNat_of_zero_le p1
  have hkl : k < vs.length := by omega
  obtain ⟨x, ad, hx, rfl, hc, hlt⟩ := atB hVC k hkl
  have HTV : Aside0 (tv (lv at_ vs) t = x) := ⟨by rw [tv_eq, if_neg (by rw [hp]; decide)]; unfold lv; rw [hk, Int.toNat_natCast, List.getD_eq_getElem?_getD, hx]; rfl⟩
  have hBW : Below W.heap.size W (W.alloc (.cells (c41 t A c B d) 41)) := below_alloc (Below.refl _ _) _
  have X : T41 (W.alloc (.cells (c41 t A c B d) 41)) ⟨W.heap.size, 0, none⟩ t A c B d := T41.mk_box (w := W) (blk_new _ _) (hP.below hB) hBW
  have hcap : vs.length ≤ 9223372036854775807 := hVC.2.1
  have HBb := Aside0.mk (hB.trans (hBW.mono hB.size))
  have HRA := Aside0.mk (hRA.below hBW)
  have hcx := (hBW.cell (p := ad.add k) hlt).trans hc
  have hlt2 : (ad.add k).block < (W.alloc (.cells (c41 t A c B d) 41)).heap.size := Nat.lt_of_lt_of_le hlt hBW.size
  have HBW := Aside0.mk hBW
  clear hBW hP hB hRA hVC hlv hR hx hc hlt p1 p2
  go_enter Tryd.func46, Tryd.ntmps46
  go_upto_region 1 with fail
  generalize hW : W.alloc (.cells (c41 t A c B d) 41) = W0 at *
  clear hW
  obtain ⟨k0, k1, k2, k3, k4, kl0, kln⟩ := X.box
  have hk0 : (0 : Int) ≤ (k : Int) := Int.natCast_nonneg _
  have hk1 : (k : Int) ≤ 9223372036854775806 := by omega
  go_wp2_with (first
    | (go_at_call 64; refine (ref_part t A c B d _ h1 h2).mono ?_; rintro e w1 ⟨rfl, hb⟩; have X1 := X.below hb; obtain ⟨m0, m1, m2, m3, m4, ml0, mln⟩ := X1.box; have HB1 := Aside0.mk (HBb.out.trans (hb.mono HBb.out.size)); have HRA1 := Aside0.mk (HRA.out.below hb); have HBW1 := Aside0.mk (below_step HBW.out hb); have hc1 := (hb.cell (p := ad.add k) hlt2).trans hcx; have hl1 := Nat.lt_of_lt_of_le hlt2 hb.size; clear hb; rw [hp])
    | (go_at_call 45; refine (ref_placeR w0 at_ t Aa ca A c B d _ HB1.out HRA1.out X1.P hal).mono ?_; rintro e w2 ⟨rfl, hb⟩; have HBW2 := Aside0.mk (below_step HBW1.out hb); have hc2 := (hb.cell (p := ad.add k) hl1).trans hc1; have hl2 := Nat.lt_of_lt_of_le hl1 hb.size; clear hb; rw [hk]))
  go_ret
  exact ⟨by rw [HTV.out]; rfl, HBW2.out⟩

set_option maxRecDepth 100000 in
set_option maxHeartbeats 4000000 in
theorem rt_node (w0 : World) (at_ : List S41) (vs : List Bool) (t : S41) (hp : isPart t.f0 = true) (ih : ∀ (k : Nat) (x : S41), t.f4[k]? = some x → RTV w0 at_ vs x) : RTV w0 at_ vs t := by
  intro A c B d Aa ca Av cv W hP hB hR hlv hRA hal hVC
  obtain ⟨⟨h1, h2⟩, hsub, hok⟩ := cparts_ok hR
  have HTV : Aside0 (tv (lv at_ vs) t = hv t.f0 (t.f4.map (tv (lv at_ vs)))) := ⟨by rw [tv_eq, if_pos hp, tvL_map]⟩
  have HLV : Aside0 (∀ x ∈ t.f4, ∀ a ∈ leaves x, 0 ≤ posn at_ a ∧ posn at_ a < vs.length) := ⟨fun x hx a ha => hlv a (by rw [leaves_eq, if_pos hp]; exact leavesL_mem.2 ⟨x, hx, ha⟩)⟩
  have HOK := Aside0.mk hok
  have HIH := Aside0.mk ih
  have HSUB := Aside0.mk hsub
  have hBW : Below W.heap.size W (W.alloc (.cells (c41 t A c B d) 41)) := below_alloc (Below.refl _ _) _
  have X : T41 (W.alloc (.cells (c41 t A c B d) 41)) ⟨W.heap.size, 0, none⟩ t A c B d := T41.mk_box (w := W) (blk_new _ _) (hP.below hB) hBW
  have HP := Aside0.mk hP
  have HBb := Aside0.mk (hB.trans (hBW.mono hB.size))
  have HRA := Aside0.mk (hRA.below hBW)
  have HVC := Aside0.mk (Kd.C_below hVC hBW)
  have HBW := Aside0.mk hBW
  clear hBW hP hB hRA hVC hlv hR hsub hok ih
  go_enter Tryd.func46, Tryd.ntmps46
  go_upto_region 1 with fail
  generalize hW : W.alloc (.cells (c41 t A c B d) 41) = W0 at *
  clear hW
  obtain ⟨k0, k1, k2, k3, k4, kl0, kln⟩ := X.box
  go_upto_region 3 with (first
    | (go_at_call 64; refine (ref_part t A c B d _ h1 h2).mono ?_; rintro e w1 ⟨rfl, hb⟩; have X1 := X.below hb; have HB1 := Aside0.mk (HBb.out.trans (hb.mono HBb.out.size)); have HRA1 := Aside0.mk (HRA.out.below hb); have HVC1 := Aside0.mk (Kd.C_below HVC.out hb); have HBW1 := Aside0.mk (below_step HBW.out hb); clear hb; rw [hp]))
  clear k0 k1 k2 k3 k4 kl0 kln X HBb HRA HVC
  obtain hop | hop | hop | hop | hop | hop | hop : t.f0 = 1 ∨ t.f0 = 2 ∨ t.f0 = 6 ∨ t.f0 = 7 ∨ t.f0 = 8 ∨ t.f0 = 9 ∨ t.f0 = 10 := by
    unfold isPart at hp; simp only [Bool.or_eq_true, Bool.and_eq_true, beq_iff_eq, decide_eq_true_eq] at hp; omega
  · obtain ⟨m0, m1, m2, m3, m4, ml0, mln⟩ := X1.box
    rw [hop] at m0 HTV
    go_wp2_with fail
    go_ret
    exact ⟨by rw [HTV.out]; rfl, HBW1.out⟩
  · obtain ⟨m0, m1, m2, m3, m4, ml0, mln⟩ := X1.box
    rw [hop] at m0 HTV
    go_wp2_with fail
    go_ret
    exact ⟨by rw [HTV.out]; rfl, HBW1.out⟩
  · obtain ⟨m0, m1, m2, m3, m4, ml0, mln⟩ := X1.box
    have h4 : t.f4.length = 1 := by have h5 := HSUB.out; rw [hop] at h5; have e : csN 6 = 1 := rfl; omega
    obtain ⟨x, ad, A3, c3, B3, d3, hx, rfl, Z0⟩ := at41 HP.out.C2 0 (by omega)
    have hxe : t.f4 = [x] := by
      obtain ⟨y, hy⟩ := List.length_eq_one_iff.1 h4
      rw [hy] at hx ⊢
      have : y = x := by simpa using hx
      rw [this]
    have Z := (Z0.below HB1.out).at0
    obtain ⟨z0, z1, z2, z3, z4, zl0, zln⟩ := Z.cells
    have HQ := Aside0.mk (HIH.out 0 x hx A3 c3 B3 d3 Aa ca Av cv w1 Z0.P HB1.out (HOK.out 0 x hx) (HLV.out x (List.mem_of_getElem? hx)) HRA1.out hal HVC1.out)
    rw [hop] at m0 HTV
    rw [hxe] at HTV
    rw [h4] at m4
    clear hx Z0 hxe
    rw [h4]
    generalize htv : tv (lv at_ vs) x = b at *
    go_wp2_with (first | (go_at_call 46; refine HQ.out.mono ?_; rintro e w2 ⟨rfl, hb⟩; have HB2 := Aside0.mk (below_step HBW1.out hb); clear hb))
    go_ret
    exact ⟨by rw [HTV.out]; simp [hv, htv], HB2.out⟩
  all_goals (
    obtain ⟨m0, m1, m2, m3, m4, ml0, mln⟩ := X1.box
    have h4 : t.f4.length = 2 := by have h5 := HSUB.out; rw [hop] at h5; have e : csN 7 = 2 := rfl; have e : csN 8 = 2 := rfl; have e : csN 9 = 2 := rfl; have e : csN 10 = 2 := rfl; omega
    obtain ⟨x, ad, A3, c3, B3, d3, hx, rfl, Z0⟩ := at41 HP.out.C2 0 (by omega)
    obtain ⟨y, ad', A4, c4, B4, d4, hy, he, Y0⟩ := at41 HP.out.C2 1 (by omega)
    obtain rfl : ad = ad' := by injection he
    have hxe : t.f4 = [x, y] := by
      obtain ⟨u, v, hu⟩ : ∃ u v, t.f4 = [u, v] := by
        match t.f4, h4 with
        | [u, v], _ => exact ⟨u, v, rfl⟩
      rw [hu] at hx hy ⊢
      have e1 : u = x := by simpa using hx
      have e2 : v = y := by simpa using hy
      rw [e1, e2]
    have HZX := Aside0.mk (Z0.below HB1.out).at0
    have HZY := Aside0.mk (Y0.below HB1.out)
    obtain ⟨z0, z1, z2, z3, z4, zl0, zln⟩ := HZX.out.cells
    obtain ⟨y0, y1, y2, y3, y4⟩ := HZY.out.at1
    have HQx : Aside0 (∀ V, Below w1.heap.size w1 V → Calls Tryd.prog 46 #[v41 x A3 c3 B3 d3, .slice Aa at_.length ca, .slice Av vs.length cv] V fun e W' => e = .returned (.bool (tv (lv at_ vs) x)) ∧ Below V.heap.size V W') := ⟨fun V hV => HIH.out 0 x hx A3 c3 B3 d3 Aa ca Av cv V Z0.P (HB1.out.trans (hV.mono HB1.out.size)) (HOK.out 0 x hx) (HLV.out x (List.mem_of_getElem? hx)) (HRA1.out.below hV) hal (Kd.C_below HVC1.out hV)⟩
    have HQy : Aside0 (∀ V, Below w1.heap.size w1 V → Calls Tryd.prog 46 #[v41 y A4 c4 B4 d4, .slice Aa at_.length ca, .slice Av vs.length cv] V fun e W' => e = .returned (.bool (tv (lv at_ vs) y)) ∧ Below V.heap.size V W') := ⟨fun V hV => HIH.out 1 y hy A4 c4 B4 d4 Aa ca Av cv V Y0.P (HB1.out.trans (hV.mono HB1.out.size)) (HOK.out 1 y hy) (HLV.out y (List.mem_of_getElem? hy)) (HRA1.out.below hV) hal (Kd.C_below HVC1.out hV)⟩
    rw [hop] at m0 HTV
    rw [hxe] at HTV
    rw [h4] at m4
    have HM4 := Aside0.mk m4
    have HLT := Aside0.mk ml0
    clear hx hy Z0 Y0 hxe he
    rw [h4]
    generalize htx : tv (lv at_ vs) x = bx at *
    generalize hty : tv (lv at_ vs) y = by_ at *
    go_upto_region 9 with fail
    go_region_held3 (fun V => V.cell? ⟨W.heap.size, 4, none⟩ = some (.slice (some ad) 2 d) ∧ V.cell? ad = some (.int .i64 x.f0) ∧ V.cell? ⟨ad.block, ad.off + 1, none⟩ = some (.string x.f1) ∧ V.cell? ⟨ad.block, ad.off + 2, none⟩ = some (.string x.f2) ∧ V.cell? ⟨ad.block, ad.off + 3, none⟩ = some (.slice A3 x.f3.length c3) ∧ V.cell? ⟨ad.block, ad.off + 4, none⟩ = some (.slice B3 x.f4.length d3) ∧ V.cell? ⟨ad.block, ad.off + 5, none⟩ = some (.int .i64 y.f0) ∧ V.cell? ⟨ad.block, ad.off + 6, none⟩ = some (.string y.f1) ∧ V.cell? ⟨ad.block, ad.off + 7, none⟩ = some (.string y.f2) ∧ V.cell? ⟨ad.block, ad.off + 8, none⟩ = some (.slice A4 y.f3.length c4) ∧ V.cell? ⟨ad.block, ad.off + 9, none⟩ = some (.slice B4 y.f4.length d4)) (go_keep) (first | (go_at_call 46; refine (HQy.out _ HB2.out).mono ?_; rintro e w3 ⟨rfl, hb⟩; have hbz := below_step HB2.out hb; have HB3 := Aside0.mk hbz; have QX := (HZX.out.below hbz); have QY := (HZY.out.below hbz); obtain ⟨g0, g1, g2, g3, g4, gl0, gln⟩ := QX.cells; obtain ⟨f0_, f1_, f2_, f3_, f4_⟩ := QY.at1; have gt := (hbz.cell (p := ⟨W.heap.size, 4, none⟩) HLT.out).trans HM4.out; have gtl := Nat.lt_of_lt_of_le HLT.out hbz.size; clear QX QY; clear hb hbz) | (go_at_call 46; refine (HQx.out _ (Below.refl _ _).drew).mono ?_; rintro e w2 ⟨rfl, hb⟩; have hbz := Below.trans (Below.refl w1.heap.size w1).drew hb; have HB2 := Aside0.mk hbz; have QX := (HZX.out.below hbz); have QY := (HZY.out.below hbz); obtain ⟨g0, g1, g2, g3, g4, gl0, gln⟩ := QX.cells; obtain ⟨f0_, f1_, f2_, f3_, f4_⟩ := QY.at1; have gt := (hbz.cell (p := ⟨W.heap.size, 4, none⟩) HLT.out).trans HM4.out; have gtl := Nat.lt_of_lt_of_le HLT.out hbz.size; clear QX QY; clear hb hbz)))
  · have HM0 : w3.cell? ⟨W.heap.size, 0, none⟩ = some (.int .i64 7) := (HB3.out.cell (p := ⟨W.heap.size, 0, none⟩) HLT.out).trans m0
    cases bx <;> cases by_ <;> (go_wp2_with fail; go_ret; exact ⟨by rw [HTV.out]; simp [hv, htx, hty], HBW1.out.trans (HB3.out.mono HBW1.out.size)⟩)
  · have HM0 : w3.cell? ⟨W.heap.size, 0, none⟩ = some (.int .i64 8) := (HB3.out.cell (p := ⟨W.heap.size, 0, none⟩) HLT.out).trans m0
    cases bx <;> cases by_ <;> (go_wp2_with fail; go_ret; exact ⟨by rw [HTV.out]; simp [hv, htx, hty], HBW1.out.trans (HB3.out.mono HBW1.out.size)⟩)
  · have HM0 : w3.cell? ⟨W.heap.size, 0, none⟩ = some (.int .i64 9) := (HB3.out.cell (p := ⟨W.heap.size, 0, none⟩) HLT.out).trans m0
    cases bx <;> cases by_ <;> (go_wp2_with fail; go_ret; exact ⟨by rw [HTV.out]; simp [hv, htx, hty], HBW1.out.trans (HB3.out.mono HBW1.out.size)⟩)
  · have HM0 : w3.cell? ⟨W.heap.size, 0, none⟩ = some (.int .i64 10) := (HB3.out.cell (p := ⟨W.heap.size, 0, none⟩) HLT.out).trans m0
    cases bx <;> cases by_ <;> (go_wp2_with fail; go_ret; exact ⟨by rw [HTV.out]; simp [hv, htx, hty], HBW1.out.trans (HB3.out.mono HBW1.out.size)⟩)
theorem rt_all (w0 : World) (at_ : List S41) (vs : List Bool) (q : Nat) : ∀ t : S41, csize t ≤ q → RTV w0 at_ vs t := by
  induction q with
  | zero => intro t h; rw [csize_eq] at h; omega
  | succ q ih =>
    intro t hq
    cases hp : isPart t.f0 with
    | false => exact rt_leaf w0 at_ vs t hp
    | true => exact rt_node w0 at_ vs t hp (fun k x hx => ih x (by have := csize_sub hx; omega))
/-- sequiturref26.True. -/
theorem ref_True (w0 : World) (at_ : List S41) (vs : List Bool) (t : S41) : RTV w0 at_ vs t := rt_all w0 at_ vs _ t (Nat.le_refl _)
end Go.Proofs.YtbfgoopomfenjaaDoor
namespace Go.Proofs.YtbfgoopomfenjaaDoor
open Go.RowKit Go.Proofs.YtbfgoopomfenjaaDoorW.PrintWords Go.Proofs.YtbfgoopomfenjaaDoorW.PrintLast Go.Proofs.YtbfgoopomfenjaaDoor.PTseitinValues
set_option linter.unusedVariables false
set_option linter.unusedSimpArgs false
attribute [local go_sem] World.cell?_alloc_lt
attribute [local go_sem] run_store_fn

/-- Are all atoms of a claim among others? -/
def known (at_ : List S41) (t : S41) : Bool := (atomsL [t] []).all (fun a => decide (0 ≤ posn at_ a))
/-- What Holds gives. -/
def holdsB (at_ : List S41) (vs : List Bool) (t : S41) : Bool × Bool :=
  if cright t = 0 ∧ at_.length ≤ vs.length ∧ known at_ t = true then (tv (lv at_ vs) t, true) else (false, false)
/-- What Literal gives. -/
def litB (at_ : List S41) (t : S41) : Int × Bool :=
  if 0 ≤ posn at_ t then (posn at_ t + 1, true) else if t.f0 = 6 ∧ t.f4.length = 1 ∧ 0 ≤ posn at_ (t.f4.headD t) then (-(posn at_ (t.f4.headD t)) - 1, true) else (0, false)
theorem cright_parts2 {t : S41} (h : cright t = 0) : cparts t = 0 := by
  unfold cright at h
  split at h
  · exact absurd h (by decide)
  · split at h
    · exact absurd h (by decide)
    · exact h
theorem known_leaves {at_ : List S41} {t : S41} (hz : cparts t = 0) (h : known at_ t = true) (m : Nat) (hm : at_.length ≤ m) : ∀ a ∈ leaves t, 0 ≤ posn at_ a ∧ posn at_ a < m := by
  intro a ha
  unfold known at h
  rw [List.all_eq_true] at h
  have h1 := (atomsL_has (us := [t]) (fun x hx => by rw [List.mem_singleton.1 hx]; exact hz) []).2 t (by simp) a ha
  have h2 : Has at_ a := h1.trans (fun b hb => posn_has (by simpa using h b hb))
  have h3 := h2.posn
  omega
/-- A literal row of one claim. -/
theorem one_claim {W : World} {t : S41} {A : Option Addr} {c : Nat} {B : Option Addr} {d : Nat} (hP : P41 W t A c B d) : k41.C (W.alloc (.cells (c41 t A c B d) 41)) (some ⟨W.heap.size, 0, none⟩) 1 [t] := by
  have hb : Below W.heap.size W (W.alloc (.cells (c41 t A c B d) 41)) := below_alloc (Below.refl _ _) _
  have hP2 := hP.below hb
  have hx : (W.alloc (.cells (c41 t A c B d) 41)).heap[W.heap.size]? = some (.cells ([.int .i64 t.f0, .string t.f1, .string t.f2, .slice A t.f3.length c, .slice B t.f4.length d] : List Value).toArray 41 (0, 0)) := blk_new _ _
  refine ⟨rfl, by omega, fun _ => ⟨_, rfl, fun j p hj => ?_⟩⟩
  cases j with
  | zero =>
    have : t = p := by simpa using hj
    subst this
    refine ⟨[.int .i64 t.f0, .string t.f1, .string t.f2, .slice A t.f3.length c, .slice B t.f4.length d], rfl, k41_mk _ t hP2.le1 hP2.C1 hP2.le2 hP2.C2, fun i u hi => ?_⟩
    rw [Nat.zero_mul, Nat.zero_add]
    have hz : (⟨W.heap.size, 0, none⟩ : Addr).add i = ⟨W.heap.size, i, none⟩ := by
      unfold Addr.add
      split
      · rename_i h0; subst h0; rfl
      · simp
    rw [hz, blk_cell hx i]
    simpa using hi
  | succ j => simp at hj

set_option maxRecDepth 100000 in
set_option maxHeartbeats 4000000 in
/-- sequiturref26.Holds. -/
theorem ref_Holds (w0 : World) (at_ : List S41) (vs : List Bool) (t : S41) (A : Option Addr) (c : Nat) (B : Option Addr) (d : Nat) (Aa : Option Addr) (ca : Nat) (Av : Option Addr) (cv : Nat) (W : World) (hP : P41 w0 t A c B d) (hB : Below w0.heap.size w0 W) (hs : csize t ≤ 4096) (hRA : RA w0 W Aa at_) (hal : at_.length ≤ 1000000) (hVC : kB.C W Av vs.length vs) :
    Calls Tryd.prog 20 #[v41 t A c B d, .slice Aa at_.length ca, .slice Av vs.length cv] W fun e W' => e = .returned (.tuple #[.bool (holdsB at_ vs t).1, .bool (holdsB at_ vs t).2]) ∧ Below W.heap.size W W' := by
  have hvl : vs.length ≤ 9223372036854775807 := hVC.2.1
  have hBW : Below W.heap.size W (W.alloc (.cells (c41 t A c B d) 41)) := below_alloc (Below.refl _ _) _
  have X : T41 (W.alloc (.cells (c41 t A c B d) 41)) ⟨W.heap.size, 0, none⟩ t A c B d := T41.mk_box (w := W) (blk_new _ _) (hP.below hB) hBW
  have HP := Aside0.mk hP
  have HS := Aside0.mk hs
  have HBb := Aside0.mk (hB.trans (hBW.mono hB.size))
  have HRA := Aside0.mk (hRA.below hBW)
  have HVC := Aside0.mk (Kd.C_below hVC hBW)
  have HBW := Aside0.mk hBW
  clear hBW hP hB hRA hVC hs
  by_cases hz : cright t = 0
  · have hzb : (cright t != 0) = false := by simpa using hz
    by_cases hlen : vs.length < at_.length
    · have hl1 : decide ((vs.length : Int) < (at_.length : Int)) = true := decide_eq_true (by omega)
      have hl2 : decide (vs.length < at_.length) = true := decide_eq_true hlen
      have HR : Aside0 (holdsB at_ vs t = (false, false)) := ⟨by unfold holdsB; rw [if_neg (by omega)]⟩
      go_enter Tryd.func20, Tryd.ntmps20
      go_upto_region 1 with fail
      generalize hW : W.alloc (.cells (c41 t A c B d) 41) = W0 at *
      clear hW hz
      obtain ⟨k0, k1, k2, k3, k4, kl0, kln⟩ := X.box
      go_wp2_with (first | (go_at_call 32; refine (ref_Right t A c B d _ HS.out X.P).mono ?_; rintro e w1 ⟨rfl, hb⟩; have HB1 := Aside0.mk (below_step HBW.out hb); clear hb))
      exact bodyPost_ret (by simp [results, Tryd.results20, go_sem]; (first | exact ⟨rfl, rfl⟩ | rfl)) rfl ⟨by rw [HR.out], HB1.out⟩
    · have hl1 : decide ((vs.length : Int) < (at_.length : Int)) = false := decide_eq_false (by omega)
      have hl2 : decide (vs.length < at_.length) = false := decide_eq_false hlen
      have hle : at_.length ≤ vs.length := by omega
      have HCP := Aside0.mk (cright_parts2 hz)
      have HZ := Aside0.mk hz
      go_enter Tryd.func20, Tryd.ntmps20
      go_upto_region 1 with fail
      generalize hW : W.alloc (.cells (c41 t A c B d) 41) = W0 at *
      clear hW hz
      obtain ⟨k0, k1, k2, k3, k4, kl0, kln⟩ := X.box
      go_upto_region 3 with (first | (go_at_call 32; refine (ref_Right t A c B d _ HS.out X.P).mono ?_; rintro e w1 ⟨rfl, hb⟩; have X1 := X.below hb; have HB1 := Aside0.mk (below_step HBW.out hb); have HBb1 := Aside0.mk (HBb.out.trans (hb.mono HBb.out.size)); have HRA1 := Aside0.mk (HRA.out.below hb); have HVC1 := Aside0.mk (Kd.C_below HVC.out hb); clear hb))
      clear k0 k1 k2 k3 k4 kl0 kln X
      obtain ⟨k0, k1, k2, k3, k4, kl0, kln⟩ := X1.box
      have hC1 := one_claim X1.P
      have hb2 : Below w1.heap.size w1 (w1.alloc (.cells (c41 t A c B d) 41)) := below_alloc (Below.refl _ _) _
      have HQ := Aside0.mk (ref_Atoms _ [t] (some ⟨w1.heap.size, 0, none⟩) 1 _ (Below.refl _ _) hC1 (by have := HS.out; simp; omega))
      have HX1 := Aside0.mk X1
      have HB2 := Aside0.mk (below_step HB1.out hb2)
      have HBb2 := Aside0.mk (HBb1.out.trans (hb2.mono HBb1.out.size))
      have HRA2 := Aside0.mk (HRA1.out.below hb2)
      have HVC2 := Aside0.mk (Kd.C_below HVC1.out hb2)
      have HXX := Aside0.mk (X1.below hb2)
      clear hC1 hb2 X1
      go_upto_region 4 with (first | (go_at_call 33; refine HQ.out.mono ?_; rintro e w3 ⟨A2, c2, rfl, hat, hb3, hev⟩; have HAT := Aside0.mk hat; have HB3 := Aside0.mk hb3; clear hat hb3 hev))
      generalize hW : w1.alloc (.cells (c41 t A c B d) 41) = W2 at *
      clear hW k0 k1 k2 k3 k4 kl0 kln HQ
      obtain ⟨_, _, hra⟩ := HAT.out.RA
      have HOA := Aside0.mk hra
      clear hra
      have hol : (atomsL [t] []).length ≤ 1000000 := by
        have h1 := atomsT_len [t] [] 1
        have h2 := sumTo_le csize [t] 1
        have h3 : ([t].map csize).sum = csize t := by simp
        have := HS.out
        rw [List.take_of_length_le (by simp)] at h1
        have h4 : ([] : List S41).length = 0 := rfl
        omega
      generalize hown : atomsL [t] [] = own_ at *
      go_wp2_with fail
      go_loopw [9] (fun i wr => ∃ k : Nat, k ≤ own_.length ∧ i = .int .i64 k ∧ Aside0 ((own_.take k).all (fun a => decide (0 ≤ posn at_ a)) = true) ∧ Aside0 (Below w3.heap.size w3 wr)) (fun i _ => own_.length - (intOf i).toNat)
      case atStart => exact ⟨0, Nat.zero_le _, rfl, ⟨rfl⟩, ⟨Below.refl _ _⟩⟩
      case round =>
        obtain ⟨k, hk, rfl, HF, HBr⟩ := hrel
        have HBr2 := Aside0.mk (below_step HB3.out HBr.out)
        by_cases hlt : k < own_.length
        · have hltb : decide (k < own_.length) = true := decide_eq_true hlt
          obtain ⟨x, ad, A3, c3, B3, d3, hx, rfl, Z, _⟩ := (HOA.out.below HBr.out).get HBr2.out k hlt
          obtain ⟨z0, z1, z2, z3, z4, zl0, zln⟩ := Z.cells
          have HZ := Aside0.mk Z
          clear Z
          have HQ := Aside0.mk (ref_placeR w0 at_ x Aa ca A3 c3 B3 d3 wr (HBb2.out.trans (HBr2.out.mono HBb2.out.size)) (HRA2.out.below HBr2.out) HZ.out.P hal)
          by_cases hp : 0 ≤ posn at_ x
          · have hp1 : (posn at_ x + 1 == 0) = false := by rw [beq_eq_false_iff_ne]; omega
            have HF2 : Aside0 ((own_.take (k + 1)).all (fun a => decide (0 ≤ posn at_ a)) = true) := ⟨by rw [take_snoc hx, List.all_append, HF.out]; simp [hp]⟩
            clear hx hp
            generalize posn at_ x + 1 = pz at *
            go_wp2_with (first | (go_at_call 45; refine HQ.out.mono ?_; rintro e w4 ⟨rfl, hb⟩; have HB4 := Aside0.mk (below_step HBr.out hb); clear hb))
            refine ⟨⟨k + 1, by omega, by go_num, HF2, HB4⟩, ?_⟩
            simp [intOf]; omega
          · have hpo := posn_le at_ x
            have hp1 : (posn at_ x + 1 == 0) = true := by rw [beq_iff_eq]; omega
            have HR : Aside0 (holdsB at_ vs t = (false, false)) := ⟨by
              unfold holdsB
              rw [if_neg]
              rintro ⟨_, _, h9⟩
              unfold known at h9
              rw [hown, List.all_eq_true] at h9
              have := h9 x (List.mem_of_getElem? hx)
              exact hp (by simpa using this)⟩
            clear hx hp
            generalize posn at_ x + 1 = pz at *
            go_wp2_with (first | (go_at_call 45; refine HQ.out.mono ?_; rintro e w4 ⟨rfl, hb⟩; have HB4 := Aside0.mk (below_step HBr.out hb); clear hb))
            exact bodyPost_ret (by simp [results, Tryd.results20, go_sem]; (first | exact ⟨rfl, rfl⟩ | rfl)) rfl ⟨by rw [HR.out], HB2.out.trans ((below_step HB3.out HB4.out).mono HB2.out.size)⟩
        · have hltb : decide (k < own_.length) = false := decide_eq_false hlt
          have hkn : known at_ t = true := by
            have h1 := HF.out
            rw [List.take_of_length_le (by omega)] at h1
            unfold known; rw [hown]; exact h1
          have HR : Aside0 (holdsB at_ vs t = (tv (lv at_ vs) t, true)) := ⟨by unfold holdsB; rw [if_pos ⟨HZ.out, hle, hkn⟩]⟩
          have Xr := HXX.out.below HBr2.out
          obtain ⟨m0, m1, m2, m3, m4, ml0, mln⟩ := Xr.box
          have HQ := Aside0.mk (ref_True w0 at_ vs t A c B d Aa ca Av cv wr HP.out (HBb2.out.trans (HBr2.out.mono HBb2.out.size)) HCP.out (known_leaves HCP.out hkn _ hle) (HRA2.out.below HBr2.out) hal (Kd.C_below HVC2.out HBr2.out))
          clear hkn Xr
          go_wp2_with (first | (go_at_call 46; refine HQ.out.mono ?_; rintro e w4 ⟨rfl, hb⟩; have HB4 := Aside0.mk (below_step HBr2.out hb); clear hb))
          exact bodyPost_ret (by simp [results, Tryd.results20, go_sem]; (first | exact ⟨rfl, rfl⟩ | rfl)) rfl ⟨by rw [HR.out], HB2.out.trans (HB4.out.mono HB2.out.size)⟩
  · have hzb : (cright t != 0) = true := by simpa using hz
    have HR : Aside0 (holdsB at_ vs t = (false, false)) := ⟨by unfold holdsB; rw [if_neg (fun h => hz h.1)]⟩
    go_enter Tryd.func20, Tryd.ntmps20
    go_upto_region 1 with fail
    generalize hW : W.alloc (.cells (c41 t A c B d) 41) = W0 at *
    clear hW hz
    obtain ⟨k0, k1, k2, k3, k4, kl0, kln⟩ := X.box
    go_wp2_with (first | (go_at_call 32; refine (ref_Right t A c B d _ HS.out X.P).mono ?_; rintro e w1 ⟨rfl, hb⟩; have HB1 := Aside0.mk (below_step HBW.out hb); clear hb))
    exact bodyPost_ret (by simp [results, Tryd.results20, go_sem]; (first | exact ⟨rfl, rfl⟩ | rfl)) rfl ⟨by rw [HR.out], HB1.out⟩
end Go.Proofs.YtbfgoopomfenjaaDoor
namespace Go.Proofs.YtbfgoopomfenjaaDoor
open Go.RowKit Go.Proofs.YtbfgoopomfenjaaDoorW.PrintWords Go.Proofs.YtbfgoopomfenjaaDoorW.PrintLast Go.Proofs.YtbfgoopomfenjaaDoor.PTseitinValues
set_option linter.unusedVariables false
set_option linter.unusedSimpArgs false
attribute [local go_sem] World.cell?_alloc_lt
attribute [local go_sem] run_store_fn

/-- Holds' closure for the parts does nothing. -/
abbrev hInv (Wn : World) : List Bool → Value → World → Prop := fun _ v W => v = .slice none 0 0 ∧ Below Wn.heap.size Wn W
theorem hInv_ok {w0 Wn : World} (hB : Below w0.heap.size w0 Wn) : EvInv w0 Wn.heap.size (fun _ => False) (hInv Wn) where
  upd := fun out v W W' h hu => ⟨h.1, by
    obtain ⟨h1, h2⟩ := h
    exact h2.trans (hu.below h2.size (fun i e => e.1))⟩
  below := fun out v W h => hB.trans (h.2.mono hB.size)
  size := fun out v W h => h.2.size
  lt := fun out v W i h e => by
    obtain ⟨rfl, _⟩ := h
    exact e.elim (fun e => e.elim) (fun e => (Ev_nil i e).elim)
theorem hPart (w0 Wn : World) (bO m : Nat) : PART_h (hInv Wn) w0 (fun _ => False) bO m := by
  intro b out v W h hm
  have H := Aside0.mk h
  clear h
  go_enter Tryd.func44, Tryd.ntmps44
  go_wp2_with fail
  go_end0
  exact ⟨rfl, v, H.out, Upd.refl _ _, .inl rfl⟩

theorem hold_boxes (W : World) (cs : Array Value) (v u : Value) :
    Below W.heap.size W (((W.alloc (.cells cs 41)).alloc (.cells #[v] 22)).alloc (.cells #[u] 34)) ∧
    (((W.alloc (.cells cs 41)).alloc (.cells #[v] 22)).alloc (.cells #[u] 34)).heap[W.heap.size]? = some (.cells cs 41 (0, 0)) ∧
    Boxed (((W.alloc (.cells cs 41)).alloc (.cells #[v] 22)).alloc (.cells #[u] 34)) (W.heap.size + 1) 22 v ∧
    Boxed (((W.alloc (.cells cs 41)).alloc (.cells #[v] 22)).alloc (.cells #[u] 34)) (W.heap.size + 1 + 1) 34 u :=
  ⟨(((Below.refl _ _).alloc (Nat.le_refl _) _).alloc (by simp) _).alloc (by simp; omega) _, blk_alloc (blk_alloc (blk_new _ _) _) _, blk_alloc (blk_newAt _ _ _ (by simp)) _, blk_newAt _ _ _ (by simp)⟩

set_option maxRecDepth 100000 in
set_option maxHeartbeats 4000000 in
/-- tseitin.Holds. -/
theorem ts_Holds (w0 : World) (at_ : List S41) (vs : List Bool) (t : S41) (A : Option Addr) (c : Nat) (B : Option Addr) (d : Nat) (Aa : Option Addr) (ca : Nat) (Av : Option Addr) (cv : Nat) (W : World) (hP : P41 w0 t A c B d) (hB : Below w0.heap.size w0 W) (hN : Needs W) (hs : csize t ≤ 4096) (hRA : RA w0 W Aa at_) (hal : at_.length ≤ 1000000) (hVC : kB.C W Av vs.length vs) :
    Calls Tryd.prog 19 #[v41 t A c B d, .slice Aa at_.length ca, .slice Av vs.length cv] W fun e W' => e = .returned (.tuple #[.bool (holdsB at_ vs t).1, .bool (holdsB at_ vs t).2]) ∧ Below W.heap.size W W' := by
  have hvl : vs.length ≤ 9223372036854775807 := hVC.2.1
  have hmf : ∀ fn first cap w, (Instr.makeFunc fn first cap).run Tryd.prog w = .ok (.func fn first cap) w := fun _ _ _ _ => rfl
  obtain ⟨hBW, hX0, hb4, hb5⟩ := hold_boxes W (c41 t A c B d) (.slice Aa at_.length ca) (.slice Av vs.length cv)
  have X := T41.mk_box hX0 (hP.below hB) hBW
  have a0 := hb4.cell
  have v0 := hb5.cell
  have al0 := hb4.lt
  have vl0 := hb5.lt
  have HP := Aside0.mk hP
  have HS := Aside0.mk hs
  have HBb := Aside0.mk (hB.trans (hBW.mono hB.size))
  have HRA := Aside0.mk (hRA.below hBW)
  have HVC := Aside0.mk (Kd.C_below hVC hBW)
  have HN := Aside0.mk (hN.below hBW)
  have HBW := Aside0.mk hBW
  have Hb4 := Aside0.mk hb4
  have Hb5 := Aside0.mk hb5
  clear hBW hP hB hRA hVC hs hX0 hb4 hb5 hN
  by_cases hz : cright t = 0
  · have hzb : (cright t != 0) = false := by simpa using hz
    by_cases hlen : vs.length < at_.length
    · have hl1 : decide ((vs.length : Int) < (at_.length : Int)) = true := decide_eq_true (by omega)
      have hl2 : decide (vs.length < at_.length) = true := decide_eq_true hlen
      have HR : Aside0 (holdsB at_ vs t = (false, false)) := ⟨by unfold holdsB; rw [if_neg (by omega)]⟩
      go_enter Tryd.func19, Tryd.ntmps19
      go_upto_region 1 with fail
      generalize hW : ((W.alloc (.cells (c41 t A c B d) 41)).alloc (.cells #[.slice Aa at_.length ca] 22)).alloc (.cells #[.slice Av vs.length cv] 34) = W0 at *
      clear hW hz
      obtain ⟨k0, k1, k2, k3, k4, kl0, kln⟩ := X.box
      go_wp2_with (first | (go_at_call 26; refine (claim_right t A c B d _ HS.out X.P HN.out).mono ?_; rintro e w1 ⟨rfl, hb⟩; have HB1 := Aside0.mk (below_step HBW.out hb); have a1 := (Hb4.out.kept (grown_of_below hb none) (by simp)).cell; have v1 := (Hb5.out.kept (grown_of_below hb none) (by simp)).cell; clear hb))
      exact bodyPost_ret (by simp [results, Tryd.results19, go_sem]; (first | exact ⟨rfl, rfl⟩ | rfl)) rfl ⟨by rw [HR.out], HB1.out⟩
    · have hl1 : decide ((vs.length : Int) < (at_.length : Int)) = false := decide_eq_false (by omega)
      have hl2 : decide (vs.length < at_.length) = false := decide_eq_false hlen
      have hle : at_.length ≤ vs.length := by omega
      have HCP := Aside0.mk (cright_parts2 hz)
      have HZ := Aside0.mk hz
      go_enter Tryd.func19, Tryd.ntmps19
      go_upto_region 1 with fail
      generalize hW : ((W.alloc (.cells (c41 t A c B d) 41)).alloc (.cells #[.slice Aa at_.length ca] 22)).alloc (.cells #[.slice Av vs.length cv] 34) = W0 at *
      clear hW hz
      obtain ⟨k0, k1, k2, k3, k4, kl0, kln⟩ := X.box
      go_upto_region 3 with (first | (go_at_call 26; refine (claim_right t A c B d _ HS.out X.P HN.out).mono ?_; rintro e w1 ⟨rfl, hb⟩; have X1 := X.below hb; have HB1 := Aside0.mk (below_step HBW.out hb); have HBb1 := Aside0.mk (HBb.out.trans (hb.mono HBb.out.size)); have HRA1 := Aside0.mk (HRA.out.below hb); have HVC1 := Aside0.mk (Kd.C_below HVC.out hb); have Hb41 := Aside0.mk (Hb4.out.kept (grown_of_below hb none) (by simp)); have Hb51 := Aside0.mk (Hb5.out.kept (grown_of_below hb none) (by simp)); have a1 := Hb41.out.cell; have v1 := Hb51.out.cell; clear hb))
      clear k0 k1 k2 k3 k4 kl0 kln X a0 v0 al0 vl0 a1 v1
      obtain ⟨k0, k1, k2, k3, k4, kl0, kln⟩ := X1.box
      have hC1 := one_claim X1.P
      have hb2 : Below w1.heap.size w1 (w1.alloc (.cells (c41 t A c B d) 41)) := below_alloc (Below.refl _ _) _
      have HQ := Aside0.mk (prog_Atoms _ [t] (some ⟨w1.heap.size, 0, none⟩) 1 _ (Below.refl _ _) hC1 (by have := HS.out; simp; omega))
      have HX1 := Aside0.mk X1
      have HB2 := Aside0.mk (below_step HB1.out hb2)
      have HBb2 := Aside0.mk (HBb1.out.trans (hb2.mono HBb1.out.size))
      have HRA2 := Aside0.mk (HRA1.out.below hb2)
      have HVC2 := Aside0.mk (Kd.C_below HVC1.out hb2)
      have Hb42 := Aside0.mk (Hb41.out.kept (grown_of_below hb2 none) (by simp))
      have Hb52 := Aside0.mk (Hb51.out.kept (grown_of_below hb2 none) (by simp))
      have HXX := Aside0.mk (X1.below hb2)
      clear hC1 hb2 X1
      go_wp2_with (first | (go_at_call 28; refine HQ.out.mono ?_; rintro e w3 ⟨A2, c2, rfl, hat, hb3, hev⟩; have HAT := Aside0.mk hat; have HB3 := Aside0.mk hb3; clear hat hb3 hev))
      generalize hW : w1.alloc (.cells (c41 t A c B d) 41) = W2 at *
      clear hW k0 k1 k2 k3 k4 kl0 kln HQ
      obtain ⟨_, _, hra⟩ := HAT.out.RA
      have HOA := Aside0.mk hra
      clear hra
      have hol : (atomsL [t] []).length ≤ 1000000 := by
        have h1 := atomsT_len [t] [] 1
        have h2 := sumTo_le csize [t] 1
        have h3 : ([t].map csize).sum = csize t := by simp
        have := HS.out
        rw [List.take_of_length_le (by simp)] at h1
        have h4 : ([] : List S41).length = 0 := rfl
        omega
      generalize hown : atomsL [t] [] = own_ at *
      go_loopw [24] (fun i wr => ∃ k : Nat, k ≤ own_.length ∧ i = .int .i64 k ∧ Aside0 ((own_.take k).all (fun a => decide (0 ≤ posn at_ a)) = true) ∧ Aside0 (Below w3.heap.size w3 wr)) (fun i _ => own_.length - (intOf i).toNat)
      case atStart => exact ⟨0, Nat.zero_le _, rfl, ⟨rfl⟩, ⟨Below.refl _ _⟩⟩
      case round =>
        obtain ⟨k, hk, rfl, HF, HBr⟩ := hrel
        have HBr2 := Aside0.mk (below_step HB3.out HBr.out)
        have Hb4r := Aside0.mk (Hb42.out.kept (grown_of_below HBr2.out none) (by simp))
        have Hb5r := Aside0.mk (Hb52.out.kept (grown_of_below HBr2.out none) (by simp))
        have a0 := Hb4r.out.cell
        have al0 := Hb4r.out.lt
        have aln : ∀ q, W.heap.size + 1 < wr.heap.size + q := fun q => by omega
        by_cases hlt : k < own_.length
        · have hltb : decide (k < own_.length) = true := decide_eq_true hlt
          obtain ⟨x, ad, A3, c3, B3, d3, hx, rfl, Z, _⟩ := (HOA.out.below HBr.out).get HBr2.out k hlt
          obtain ⟨z0, z1, z2, z3, z4, zl0, zln⟩ := Z.cells
          have hWB : Below wr.heap.size wr (wr.alloc (.cells #[.int .i64 x.f0, .string x.f1, .string x.f2, .slice A3 x.f3.length c3, .slice B3 x.f4.length d3] 41)) := below_alloc (Below.refl _ _) _
          have HQ := Aside0.mk (ts_placeR w0 at_ x Aa ca A3 c3 B3 d3 _ ((HBb2.out.trans (HBr2.out.mono HBb2.out.size)).trans (hWB.mono (Nat.le_trans HBb2.out.size HBr2.out.size))) ((HRA2.out.below HBr2.out).below hWB) (Z.P.below hWB) hal)
          have HWB := Aside0.mk hWB
          clear Z hWB
          by_cases hp : 0 ≤ posn at_ x
          · have hp1 : decide (posn at_ x < 0) = false := decide_eq_false (by omega)
            have HF2 : Aside0 ((own_.take (k + 1)).all (fun a => decide (0 ≤ posn at_ a)) = true) := ⟨by rw [take_snoc hx, List.all_append, HF.out]; simp [hp]⟩
            clear hx hp
            generalize posn at_ x = pz at *
            go_wp2_with (first | (go_at_call 31; refine HQ.out.mono ?_; rintro e w4 ⟨rfl, hb⟩; have HB4 := Aside0.mk (below_step HBr.out (below_step HWB.out hb)); clear hb))
            refine ⟨⟨k + 1, by omega, by go_num, HF2, HB4⟩, ?_⟩
            simp [intOf]; omega
          · have hp1 : decide (posn at_ x < 0) = true := decide_eq_true (by omega)
            have HR : Aside0 (holdsB at_ vs t = (false, false)) := ⟨by
              unfold holdsB
              rw [if_neg]
              rintro ⟨_, _, h9⟩
              unfold known at h9
              rw [hown, List.all_eq_true] at h9
              have := h9 x (List.mem_of_getElem? hx)
              exact hp (by simpa using this)⟩
            clear hx hp
            generalize posn at_ x = pz at *
            go_wp2_with (first | (go_at_call 31; refine HQ.out.mono ?_; rintro e w4 ⟨rfl, hb⟩; have HB4 := Aside0.mk (below_step HBr.out (below_step HWB.out hb)); clear hb))
            exact bodyPost_ret (by simp [results, Tryd.results19, go_sem]; (first | exact ⟨rfl, rfl⟩ | rfl)) rfl ⟨by rw [HR.out], HB2.out.trans ((below_step HB3.out HB4.out).mono HB2.out.size)⟩
        · have hltb : decide (k < own_.length) = false := decide_eq_false hlt
          have hkn : known at_ t = true := by
            have h1 := HF.out
            rw [List.take_of_length_le (by omega)] at h1
            unfold known; rw [hown]; exact h1
          have HR : Aside0 (holdsB at_ vs t = (tv (lv at_ vs) t, true)) := ⟨by unfold holdsB; rw [if_pos ⟨HZ.out, hle, hkn⟩]⟩
          have Xr := HXX.out.below HBr2.out
          obtain ⟨m0, m1, m2, m3, m4, ml0, mln⟩ := Xr.box
          have hBr : Below w0.heap.size w0 wr := HBb2.out.trans (HBr2.out.mono HBb2.out.size)
          have hLB : LeafBoxes w0 at_ vs (W.heap.size + 1 + 1) (W.heap.size + 1) wr := ⟨hBr, ⟨Aa, ca, Hb4r.out, HRA2.out.below HBr2.out⟩, ⟨Av, cv, Hb5r.out, Kd.C_below HVC2.out HBr2.out⟩, hal⟩
          have HQ := Aside0.mk (ev_all_h w0 at_ vs (W.heap.size + 1 + 1) (W.heap.size + 1) 0 100000 wr.heap.size (by omega) (fun _ => False) (hInv wr) (hInv_ok hBr) (fun out v V h => hLB.step h.2) (hPart w0 wr 0 100000) _ t (Nat.le_refl _) A c B d [] (.slice none 0 0) wr HP.out HCP.out (known_leaves HCP.out hkn _ hle) ⟨rfl, Below.refl _ _⟩ (by have := HS.out; simp; omega))
          clear hkn Xr hBr hLB
          go_wp2_with (first | (go_at_call 38; refine HQ.out.mono ?_; rintro e w4 ⟨rfl, v4, hi4, _, _⟩; have HB4 := Aside0.mk (below_step HBr2.out hi4.2); clear hi4))
          exact bodyPost_ret (by simp [results, Tryd.results19, go_sem]; (first | exact ⟨rfl, rfl⟩ | rfl)) rfl ⟨by rw [HR.out], HB2.out.trans (HB4.out.mono HB2.out.size)⟩
  · have hzb : (cright t != 0) = true := by simpa using hz
    have HR : Aside0 (holdsB at_ vs t = (false, false)) := ⟨by unfold holdsB; rw [if_neg (fun h => hz h.1)]⟩
    go_enter Tryd.func19, Tryd.ntmps19
    go_upto_region 1 with fail
    generalize hW : ((W.alloc (.cells (c41 t A c B d) 41)).alloc (.cells #[.slice Aa at_.length ca] 22)).alloc (.cells #[.slice Av vs.length cv] 34) = W0 at *
    clear hW hz
    obtain ⟨k0, k1, k2, k3, k4, kl0, kln⟩ := X.box
    go_wp2_with (first | (go_at_call 26; refine (claim_right t A c B d _ HS.out X.P HN.out).mono ?_; rintro e w1 ⟨rfl, hb⟩; have HB1 := Aside0.mk (below_step HBW.out hb); clear hb))
    exact bodyPost_ret (by simp [results, Tryd.results19, go_sem]; (first | exact ⟨rfl, rfl⟩ | rfl)) rfl ⟨by rw [HR.out], HB1.out⟩
end Go.Proofs.YtbfgoopomfenjaaDoor
namespace Go.Proofs.YtbfgoopomfenjaaDoor
open Go.RowKit Go.Proofs.YtbfgoopomfenjaaDoorW.PrintWords Go.Proofs.YtbfgoopomfenjaaDoorW.PrintLast Go.Proofs.YtbfgoopomfenjaaDoor.PTseitinValues
set_option linter.unusedVariables false
set_option linter.unusedSimpArgs false
attribute [local go_sem] World.cell?_alloc_lt
attribute [local go_sem] run_store_fn


set_option maxRecDepth 100000 in
set_option maxHeartbeats 4000000 in
/-- Literal. -/
theorem ts_Literal (w0 : World) (at_ : List S41) (t : S41) (A : Option Addr) (c : Nat) (B : Option Addr) (d : Nat) (Aa : Option Addr) (ca : Nat) (W : World) (hP : P41 w0 t A c B d) (hB : Below w0.heap.size w0 W) (hRA : RA w0 W Aa at_) (hal : at_.length ≤ 1000000) :
    Calls Tryd.prog 21 #[.slice Aa at_.length ca, v41 t A c B d] W fun e W' => e = .returned (.tuple #[.int .i64 (litB at_ t).1, .bool (litB at_ t).2]) ∧ Below W.heap.size W W' := by
  have hBW : Below W.heap.size W (W.alloc (.cells (c41 t A c B d) 41)) := below_alloc (Below.refl _ _) _
  have X : T41 (W.alloc (.cells (c41 t A c B d) 41)) ⟨W.heap.size, 0, none⟩ t A c B d := T41.mk_box (w := W) (blk_new _ _) (hP.below hB) hBW
  have hlb := hP.C2.2.1
  have HP := Aside0.mk hP
  have HBb := Aside0.mk (hB.trans (hBW.mono hB.size))
  have HRA := Aside0.mk (hRA.below hBW)
  have HBW := Aside0.mk hBW
  clear hBW hP hB hRA
  have hpo := posn_le at_ t
  generalize hpe : posn at_ t = p at *
  by_cases hp : 0 ≤ p
  · have HR : Aside0 (litB at_ t = (p + 1, true)) := ⟨by unfold litB; rw [hpe, if_pos hp]⟩
    have hp1 : decide (0 ≤ p) = true := decide_eq_true (by omega)
    go_enter Tryd.func21, Tryd.ntmps21
    go_upto_region 1 with fail
    generalize hW : W.alloc (.cells (c41 t A c B d) 41) = W0 at *
    clear hW
    obtain ⟨k0, k1, k2, k3, k4, kl0, kln⟩ := X.box
    go_wp2_with (first | (go_at_call 31; refine (ts_placeR w0 at_ t Aa ca _ _ _ _ _ HBb.out HRA.out X.P hal).mono ?_; rintro e w1 ⟨rfl, hb⟩; have X1 := X.below hb; obtain ⟨m0, m1, m2, m3, m4, ml0, mln⟩ := X1.box; have HB1 := Aside0.mk (below_step HBW.out hb); have HBb1 := Aside0.mk (HBb.out.trans (hb.mono HBb.out.size)); have HRA1 := Aside0.mk (HRA.out.below hb); clear hb; rw [hpe]))
    refine bodyPost_ret (v := .tuple #[.int .i64 (litB at_ t).1, .bool (litB at_ t).2]) (by rw [HR.out]; simp [results, Tryd.results21, go_sem]; (try omega)) rfl ⟨rfl, HB1.out⟩
  · have hp1 : decide (0 ≤ p) = false := decide_eq_false (by omega)
    by_cases h6 : t.f0 = 6
    · have h6b : (t.f0 == 6) = true := by simpa using h6
      by_cases h1 : t.f4.length = 1
      · have h1b : ((t.f4.length : Int) == 1) = true := by rw [h1]; rfl
        have h1c : (t.f4.length == 1) = true := by rw [h1]; rfl
        obtain ⟨x, ad, A3, c3, B3, d3, hx, rfl, Z0⟩ := at41 HP.out.C2 0 (by omega)
        have hxe : t.f4.headD t = x := by
          obtain ⟨y, hy⟩ := List.length_eq_one_iff.1 h1
          rw [hy] at hx ⊢
          simpa using hx
        have HZ := Aside0.mk Z0.at0
        have hqo := posn_le at_ x
        generalize hqe : posn at_ x = q at *
        have HQ : Aside0 (∀ V, Below w0.heap.size w0 V → RA w0 V Aa at_ → Calls Tryd.prog 31 #[.slice Aa at_.length ca, v41 x A3 c3 B3 d3] V fun e w' => e = .returned (.int .i64 (q)) ∧ Below V.heap.size V w') := ⟨fun V h h2 => by rw [← hqe]; exact ts_placeR w0 at_ x Aa ca A3 c3 B3 d3 V h h2 (Z0.P.below h) hal⟩
        have H1 := Aside0.mk h1
        clear hx Z0
        by_cases hq : 0 ≤ q
        · have HR : Aside0 (litB at_ t = (-q - 1, true)) := ⟨by unfold litB; rw [hpe, if_neg hp, hxe, hqe, if_pos ⟨h6, h1, hq⟩]⟩
          have hq1 : decide (0 ≤ q) = true := decide_eq_true (by omega)
          clear h1 h1b h1c h6
          go_enter Tryd.func21, Tryd.ntmps21
          go_upto_region 1 with fail
          generalize hW : W.alloc (.cells (c41 t A c (some ad) d) 41) = W0 at *
          clear hW hxe
          try clear hlb
          have hlb : t.f4.length ≤ 9223372036854775807 := by have := H1.out; omega
          obtain ⟨k0, k1, k2, k3, k4, kl0, kln⟩ := X.box
          go_upto_region 2 with (first | (go_at_call 31; refine (ts_placeR w0 at_ t Aa ca _ _ _ _ _ HBb.out HRA.out X.P hal).mono ?_; rintro e w1 ⟨rfl, hb⟩; have X1 := X.below hb; obtain ⟨m0, m1, m2, m3, m4, ml0, mln⟩ := X1.box; have HB1 := Aside0.mk (below_step HBW.out hb); have HBb1 := Aside0.mk (HBb.out.trans (hb.mono HBb.out.size)); have HRA1 := Aside0.mk (HRA.out.below hb); clear hb; rw [hpe]))
          have Zw := HZ.out.below HBb1.out
          obtain ⟨z0, z1, z2, z3, z4, zl0, zln⟩ := Zw.cells
          rw [H1.out] at m4
          clear k0 k1 k2 k3 k4 kl0 kln
          go_wp2_with (first | (go_at_call 31; refine (HQ.out _ HBb1.out HRA1.out).mono ?_; rintro e w2 ⟨rfl, hb⟩; have HB2 := Aside0.mk (below_step HB1.out hb); clear hb))
          refine bodyPost_ret (v := .tuple #[.int .i64 (litB at_ t).1, .bool (litB at_ t).2]) (by rw [HR.out]; simp [results, Tryd.results21, go_sem]; (try omega)) rfl ⟨rfl, HB2.out⟩
        · have HR : Aside0 (litB at_ t = (0, false)) := ⟨by unfold litB; rw [hpe, if_neg hp, hxe, hqe, if_neg (fun h => hq h.2.2)]⟩
          have hq1 : decide (0 ≤ q) = false := decide_eq_false (by omega)
          clear h1 h1b h1c h6
          go_enter Tryd.func21, Tryd.ntmps21
          go_upto_region 1 with fail
          generalize hW : W.alloc (.cells (c41 t A c (some ad) d) 41) = W0 at *
          clear hW hxe
          try clear hlb
          have hlb : t.f4.length ≤ 9223372036854775807 := by have := H1.out; omega
          obtain ⟨k0, k1, k2, k3, k4, kl0, kln⟩ := X.box
          go_upto_region 2 with (first | (go_at_call 31; refine (ts_placeR w0 at_ t Aa ca _ _ _ _ _ HBb.out HRA.out X.P hal).mono ?_; rintro e w1 ⟨rfl, hb⟩; have X1 := X.below hb; obtain ⟨m0, m1, m2, m3, m4, ml0, mln⟩ := X1.box; have HB1 := Aside0.mk (below_step HBW.out hb); have HBb1 := Aside0.mk (HBb.out.trans (hb.mono HBb.out.size)); have HRA1 := Aside0.mk (HRA.out.below hb); clear hb; rw [hpe]))
          have Zw := HZ.out.below HBb1.out
          obtain ⟨z0, z1, z2, z3, z4, zl0, zln⟩ := Zw.cells
          rw [H1.out] at m4
          clear k0 k1 k2 k3 k4 kl0 kln
          go_wp2_with (first | (go_at_call 31; refine (HQ.out _ HBb1.out HRA1.out).mono ?_; rintro e w2 ⟨rfl, hb⟩; have HB2 := Aside0.mk (below_step HB1.out hb); clear hb))
          refine bodyPost_ret (v := .tuple #[.int .i64 (litB at_ t).1, .bool (litB at_ t).2]) (by rw [HR.out]; simp [results, Tryd.results21, go_sem]; (try omega)) rfl ⟨rfl, HB2.out⟩
      · have h1b : ((t.f4.length : Int) == 1) = false := by rw [beq_eq_false_iff_ne]; omega
        have h1c : (t.f4.length == 1) = false := by rw [beq_eq_false_iff_ne]; omega
        have HR : Aside0 (litB at_ t = (0, false)) := ⟨by unfold litB; rw [hpe, if_neg hp, if_neg (fun h => h1 h.2.1)]⟩
        clear h6 h1
        go_enter Tryd.func21, Tryd.ntmps21
        go_upto_region 1 with fail
        generalize hW : W.alloc (.cells (c41 t A c B d) 41) = W0 at *
        clear hW
        obtain ⟨k0, k1, k2, k3, k4, kl0, kln⟩ := X.box
        go_wp2_with (first | (go_at_call 31; refine (ts_placeR w0 at_ t Aa ca _ _ _ _ _ HBb.out HRA.out X.P hal).mono ?_; rintro e w1 ⟨rfl, hb⟩; have X1 := X.below hb; obtain ⟨m0, m1, m2, m3, m4, ml0, mln⟩ := X1.box; have HB1 := Aside0.mk (below_step HBW.out hb); have HBb1 := Aside0.mk (HBb.out.trans (hb.mono HBb.out.size)); have HRA1 := Aside0.mk (HRA.out.below hb); clear hb; rw [hpe]))
        refine bodyPost_ret (v := .tuple #[.int .i64 (litB at_ t).1, .bool (litB at_ t).2]) (by rw [HR.out]; simp [results, Tryd.results21, go_sem]; (try omega)) rfl ⟨rfl, HB1.out⟩
    · have h6b : (t.f0 == 6) = false := by simpa using h6
      have HR : Aside0 (litB at_ t = (0, false)) := ⟨by unfold litB; rw [hpe, if_neg hp, if_neg (fun h => h6 h.1)]⟩
      clear h6
      go_enter Tryd.func21, Tryd.ntmps21
      go_upto_region 1 with fail
      generalize hW : W.alloc (.cells (c41 t A c B d) 41) = W0 at *
      clear hW
      obtain ⟨k0, k1, k2, k3, k4, kl0, kln⟩ := X.box
      go_wp2_with (first | (go_at_call 31; refine (ts_placeR w0 at_ t Aa ca _ _ _ _ _ HBb.out HRA.out X.P hal).mono ?_; rintro e w1 ⟨rfl, hb⟩; have X1 := X.below hb; obtain ⟨m0, m1, m2, m3, m4, ml0, mln⟩ := X1.box; have HB1 := Aside0.mk (below_step HBW.out hb); have HBb1 := Aside0.mk (HBb.out.trans (hb.mono HBb.out.size)); have HRA1 := Aside0.mk (HRA.out.below hb); clear hb; rw [hpe]))
      refine bodyPost_ret (v := .tuple #[.int .i64 (litB at_ t).1, .bool (litB at_ t).2]) (by rw [HR.out]; simp [results, Tryd.results21, go_sem]; (try omega)) rfl ⟨rfl, HB1.out⟩

set_option maxRecDepth 100000 in
set_option maxHeartbeats 4000000 in
/-- Literal. -/
theorem ref_Literal (w0 : World) (at_ : List S41) (t : S41) (A : Option Addr) (c : Nat) (B : Option Addr) (d : Nat) (Aa : Option Addr) (ca : Nat) (W : World) (hP : P41 w0 t A c B d) (hB : Below w0.heap.size w0 W) (hRA : RA w0 W Aa at_) (hal : at_.length ≤ 1000000) :
    Calls Tryd.prog 22 #[.slice Aa at_.length ca, v41 t A c B d] W fun e W' => e = .returned (.tuple #[.int .i64 (litB at_ t).1, .bool (litB at_ t).2]) ∧ Below W.heap.size W W' := by
  have hBW : Below W.heap.size W (W.alloc (.cells (c41 t A c B d) 41)) := below_alloc (Below.refl _ _) _
  have X : T41 (W.alloc (.cells (c41 t A c B d) 41)) ⟨W.heap.size, 0, none⟩ t A c B d := T41.mk_box (w := W) (blk_new _ _) (hP.below hB) hBW
  have hlb := hP.C2.2.1
  have HP := Aside0.mk hP
  have HBb := Aside0.mk (hB.trans (hBW.mono hB.size))
  have HRA := Aside0.mk (hRA.below hBW)
  have HBW := Aside0.mk hBW
  clear hBW hP hB hRA
  have hpo := posn_le at_ t
  generalize hpe : posn at_ t = p at *
  by_cases hp : 0 ≤ p
  · have HR : Aside0 (litB at_ t = (p + 1, true)) := ⟨by unfold litB; rw [hpe, if_pos hp]⟩
    have hp1 : decide (0 < p + 1) = true := decide_eq_true (by omega)
    go_enter Tryd.func22, Tryd.ntmps22
    go_upto_region 1 with fail
    generalize hW : W.alloc (.cells (c41 t A c B d) 41) = W0 at *
    clear hW
    obtain ⟨k0, k1, k2, k3, k4, kl0, kln⟩ := X.box
    go_wp2_with (first | (go_at_call 45; refine (ref_placeR w0 at_ t Aa ca _ _ _ _ _ HBb.out HRA.out X.P hal).mono ?_; rintro e w1 ⟨rfl, hb⟩; have X1 := X.below hb; obtain ⟨m0, m1, m2, m3, m4, ml0, mln⟩ := X1.box; have HB1 := Aside0.mk (below_step HBW.out hb); have HBb1 := Aside0.mk (HBb.out.trans (hb.mono HBb.out.size)); have HRA1 := Aside0.mk (HRA.out.below hb); clear hb; rw [hpe]))
    refine bodyPost_ret (v := .tuple #[.int .i64 (litB at_ t).1, .bool (litB at_ t).2]) (by rw [HR.out]; simp [results, Tryd.results22, go_sem]; (try omega)) rfl ⟨rfl, HB1.out⟩
  · have hp1 : decide (0 < p + 1) = false := decide_eq_false (by omega)
    by_cases h6 : t.f0 = 6
    · have h6b : (t.f0 == 6) = true := by simpa using h6
      by_cases h1 : t.f4.length = 1
      · have h1b : ((t.f4.length : Int) == 1) = true := by rw [h1]; rfl
        have h1c : (t.f4.length == 1) = true := by rw [h1]; rfl
        obtain ⟨x, ad, A3, c3, B3, d3, hx, rfl, Z0⟩ := at41 HP.out.C2 0 (by omega)
        have hxe : t.f4.headD t = x := by
          obtain ⟨y, hy⟩ := List.length_eq_one_iff.1 h1
          rw [hy] at hx ⊢
          simpa using hx
        have HZ := Aside0.mk Z0.at0
        have hqo := posn_le at_ x
        generalize hqe : posn at_ x = q at *
        have HQ : Aside0 (∀ V, Below w0.heap.size w0 V → RA w0 V Aa at_ → Calls Tryd.prog 45 #[.slice Aa at_.length ca, v41 x A3 c3 B3 d3] V fun e w' => e = .returned (.int .i64 (q + 1)) ∧ Below V.heap.size V w') := ⟨fun V h h2 => by rw [← hqe]; exact ref_placeR w0 at_ x Aa ca A3 c3 B3 d3 V h h2 (Z0.P.below h) hal⟩
        have H1 := Aside0.mk h1
        clear hx Z0
        by_cases hq : 0 ≤ q
        · have HR : Aside0 (litB at_ t = (-q - 1, true)) := ⟨by unfold litB; rw [hpe, if_neg hp, hxe, hqe, if_pos ⟨h6, h1, hq⟩]⟩
          have hq1 : decide (0 < q + 1) = true := decide_eq_true (by omega)
          clear h1 h1b h1c h6
          go_enter Tryd.func22, Tryd.ntmps22
          go_upto_region 1 with fail
          generalize hW : W.alloc (.cells (c41 t A c (some ad) d) 41) = W0 at *
          clear hW hxe
          try clear hlb
          have hlb : t.f4.length ≤ 9223372036854775807 := by have := H1.out; omega
          obtain ⟨k0, k1, k2, k3, k4, kl0, kln⟩ := X.box
          go_upto_region 2 with (first | (go_at_call 45; refine (ref_placeR w0 at_ t Aa ca _ _ _ _ _ HBb.out HRA.out X.P hal).mono ?_; rintro e w1 ⟨rfl, hb⟩; have X1 := X.below hb; obtain ⟨m0, m1, m2, m3, m4, ml0, mln⟩ := X1.box; have HB1 := Aside0.mk (below_step HBW.out hb); have HBb1 := Aside0.mk (HBb.out.trans (hb.mono HBb.out.size)); have HRA1 := Aside0.mk (HRA.out.below hb); clear hb; rw [hpe]))
          have Zw := HZ.out.below HBb1.out
          obtain ⟨z0, z1, z2, z3, z4, zl0, zln⟩ := Zw.cells
          rw [H1.out] at m4
          clear k0 k1 k2 k3 k4 kl0 kln
          go_wp2_with (first | (go_at_call 45; refine (HQ.out _ HBb1.out HRA1.out).mono ?_; rintro e w2 ⟨rfl, hb⟩; have HB2 := Aside0.mk (below_step HB1.out hb); clear hb))
          refine bodyPost_ret (v := .tuple #[.int .i64 (litB at_ t).1, .bool (litB at_ t).2]) (by rw [HR.out]; simp [results, Tryd.results22, go_sem]; (try omega)) rfl ⟨rfl, HB2.out⟩
        · have HR : Aside0 (litB at_ t = (0, false)) := ⟨by unfold litB; rw [hpe, if_neg hp, hxe, hqe, if_neg (fun h => hq h.2.2)]⟩
          have hq1 : decide (0 < q + 1) = false := decide_eq_false (by omega)
          clear h1 h1b h1c h6
          go_enter Tryd.func22, Tryd.ntmps22
          go_upto_region 1 with fail
          generalize hW : W.alloc (.cells (c41 t A c (some ad) d) 41) = W0 at *
          clear hW hxe
          try clear hlb
          have hlb : t.f4.length ≤ 9223372036854775807 := by have := H1.out; omega
          obtain ⟨k0, k1, k2, k3, k4, kl0, kln⟩ := X.box
          go_upto_region 2 with (first | (go_at_call 45; refine (ref_placeR w0 at_ t Aa ca _ _ _ _ _ HBb.out HRA.out X.P hal).mono ?_; rintro e w1 ⟨rfl, hb⟩; have X1 := X.below hb; obtain ⟨m0, m1, m2, m3, m4, ml0, mln⟩ := X1.box; have HB1 := Aside0.mk (below_step HBW.out hb); have HBb1 := Aside0.mk (HBb.out.trans (hb.mono HBb.out.size)); have HRA1 := Aside0.mk (HRA.out.below hb); clear hb; rw [hpe]))
          have Zw := HZ.out.below HBb1.out
          obtain ⟨z0, z1, z2, z3, z4, zl0, zln⟩ := Zw.cells
          rw [H1.out] at m4
          clear k0 k1 k2 k3 k4 kl0 kln
          go_wp2_with (first | (go_at_call 45; refine (HQ.out _ HBb1.out HRA1.out).mono ?_; rintro e w2 ⟨rfl, hb⟩; have HB2 := Aside0.mk (below_step HB1.out hb); clear hb))
          refine bodyPost_ret (v := .tuple #[.int .i64 (litB at_ t).1, .bool (litB at_ t).2]) (by rw [HR.out]; simp [results, Tryd.results22, go_sem]; (try omega)) rfl ⟨rfl, HB2.out⟩
      · have h1b : ((t.f4.length : Int) == 1) = false := by rw [beq_eq_false_iff_ne]; omega
        have h1c : (t.f4.length == 1) = false := by rw [beq_eq_false_iff_ne]; omega
        have HR : Aside0 (litB at_ t = (0, false)) := ⟨by unfold litB; rw [hpe, if_neg hp, if_neg (fun h => h1 h.2.1)]⟩
        clear h6 h1
        go_enter Tryd.func22, Tryd.ntmps22
        go_upto_region 1 with fail
        generalize hW : W.alloc (.cells (c41 t A c B d) 41) = W0 at *
        clear hW
        obtain ⟨k0, k1, k2, k3, k4, kl0, kln⟩ := X.box
        go_wp2_with (first | (go_at_call 45; refine (ref_placeR w0 at_ t Aa ca _ _ _ _ _ HBb.out HRA.out X.P hal).mono ?_; rintro e w1 ⟨rfl, hb⟩; have X1 := X.below hb; obtain ⟨m0, m1, m2, m3, m4, ml0, mln⟩ := X1.box; have HB1 := Aside0.mk (below_step HBW.out hb); have HBb1 := Aside0.mk (HBb.out.trans (hb.mono HBb.out.size)); have HRA1 := Aside0.mk (HRA.out.below hb); clear hb; rw [hpe]))
        refine bodyPost_ret (v := .tuple #[.int .i64 (litB at_ t).1, .bool (litB at_ t).2]) (by rw [HR.out]; simp [results, Tryd.results22, go_sem]; (try omega)) rfl ⟨rfl, HB1.out⟩
    · have h6b : (t.f0 == 6) = false := by simpa using h6
      have HR : Aside0 (litB at_ t = (0, false)) := ⟨by unfold litB; rw [hpe, if_neg hp, if_neg (fun h => h6 h.1)]⟩
      clear h6
      go_enter Tryd.func22, Tryd.ntmps22
      go_upto_region 1 with fail
      generalize hW : W.alloc (.cells (c41 t A c B d) 41) = W0 at *
      clear hW
      obtain ⟨k0, k1, k2, k3, k4, kl0, kln⟩ := X.box
      go_wp2_with (first | (go_at_call 45; refine (ref_placeR w0 at_ t Aa ca _ _ _ _ _ HBb.out HRA.out X.P hal).mono ?_; rintro e w1 ⟨rfl, hb⟩; have X1 := X.below hb; obtain ⟨m0, m1, m2, m3, m4, ml0, mln⟩ := X1.box; have HB1 := Aside0.mk (below_step HBW.out hb); have HBb1 := Aside0.mk (HBb.out.trans (hb.mono HBb.out.size)); have HRA1 := Aside0.mk (HRA.out.below hb); clear hb; rw [hpe]))
      refine bodyPost_ret (v := .tuple #[.int .i64 (litB at_ t).1, .bool (litB at_ t).2]) (by rw [HR.out]; simp [results, Tryd.results22, go_sem]; (try omega)) rfl ⟨rfl, HB1.out⟩
end Go.Proofs.YtbfgoopomfenjaaDoor
namespace Go.Proofs.YtbfgoopomfenjaaDoor
open Go.RowKit Go.Proofs.YtbfgoopomfenjaaDoorW.PrintWords Go.Proofs.YtbfgoopomfenjaaDoorW.PrintLast Go.Proofs.YtbfgoopomfenjaaDoor.PTseitinValues
set_option linter.unusedVariables false
set_option linter.unusedSimpArgs false
attribute [local go_sem] World.cell?_alloc_lt
attribute [local go_sem] run_store_fn

set_option maxRecDepth 100000 in
set_option maxHeartbeats 4000000 in
theorem law_holds (t : S41) (A : Option Addr) (c : Nat) (B : Option Addr) (d : Nat) (at_ : List S41) (Aa : Option Addr) (ca : Nat) (vs : List Bool) (Av : Option Addr) (cv : Nat) (W : World) (hP : P41 W t A c B d) (hca : at_.length ≤ ca) (hCa : k41.C W Aa at_.length at_) (hVC : kB.C W Av vs.length vs) (hN : Needs W) :
    Calls Tryd.prog 5 #[v41 t A c B d, .slice Aa at_.length ca, .slice Av vs.length cv] W fun e w' => e = .returned (.bool true) ∧ Below W.heap.size W w' := by
  have hvl : vs.length ≤ 9223372036854775807 := hVC.2.1
  have hBW : Below W.heap.size W (W.alloc (.cells (c41 t A c B d) 41)) := below_alloc (Below.refl _ _) _
  have X : T41 (W.alloc (.cells (c41 t A c B d) 41)) ⟨W.heap.size, 0, none⟩ t A c B d := T41.mk_box (w := W) (blk_new _ _) hP hBW
  have HP := Aside0.mk hP
  have HRA := Aside0.mk (RA.of_C hCa)
  have HVC := Aside0.mk hVC
  have HCa := Aside0.mk (Kd.C_below hCa hBW)
  have HN0 := Aside0.mk hN
  have HN := Aside0.mk (hN.below hBW)
  have HBW := Aside0.mk hBW
  have HF := Aside0.mk (fun V h => law_few at_ Aa ca 200 V (by omega) (by omega) hca h)
  have HG := Aside0.mk (fun V h => base_big t A c B d 200 V (by omega) (by omega) h)
  have e200 : Int.toNat 200 = 200 := rfl
  rw [e200] at HF HG
  clear hBW hP hVC hN hCa e200
  by_cases hbig : 200 < csize t
  · have hb1 : decide (200 < csize t) = true := decide_eq_true hbig
    rw [hb1] at HG
    clear hb1 hbig
    go_enter Tryd.func5, Tryd.ntmps5
    go_upto_region 1 with fail
    generalize hW : W.alloc (.cells (c41 t A c B d) 41) = W0 at *
    clear hW
    obtain ⟨k0, k1, k2, k3, k4, kl0, kln⟩ := X.box
    go_wp2_with (first
      | (go_at_call 18; refine (HG.out _ X.P).mono ?_; rintro e w1 ⟨rfl, hb⟩; have HB1 := Aside0.mk (below_step HBW.out hb); have HN1 := Aside0.mk (HN.out.below hb); clear hb)
      | (go_at_call 10; refine (law_alive _ HN1.out).mono ?_; rintro e w2 ⟨rfl, hb⟩; have HB2 := Aside0.mk (below_step HB1.out hb); clear hb))
    go_ret
    exact ⟨rfl, HB2.out⟩
  · have hb1 : decide (200 < csize t) = false := decide_eq_false hbig
    rw [hb1] at HG
    have HS : Aside0 (csize t ≤ 4096) := ⟨by omega⟩
    clear hb1 hbig
    cases hf : fewOf at_ 200 with
    | false =>
      rw [hf] at HF
      go_enter Tryd.func5, Tryd.ntmps5
      go_upto_region 1 with fail
      generalize hW : W.alloc (.cells (c41 t A c B d) 41) = W0 at *
      clear hW
      obtain ⟨k0, k1, k2, k3, k4, kl0, kln⟩ := X.box
      go_wp2_with (first
        | (go_at_call 18; refine (HG.out _ X.P).mono ?_; rintro e w1 ⟨rfl, hb⟩; have HB1 := Aside0.mk (below_step HBW.out hb); have HN1 := Aside0.mk (HN.out.below hb); have HC1 := Aside0.mk (Kd.C_below HCa.out hb); clear hb)
        | (go_at_call 9; refine (HF.out _ HC1.out).mono ?_; rintro e w2 ⟨rfl, hb⟩; have HB2 := Aside0.mk (below_step HB1.out hb); have HN2 := Aside0.mk (HN1.out.below hb); clear hb)
        | (go_at_call 10; refine (law_alive _ HN2.out).mono ?_; rintro e w3 ⟨rfl, hb⟩; have HB3 := Aside0.mk (below_step HB2.out hb); clear hb))
      go_ret
      exact ⟨rfl, HB3.out⟩
    | true =>
      rw [hf] at HF
      have HAL : Aside0 (at_.length ≤ 1000000) := ⟨by
        unfold fewOf at hf
        rw [Bool.and_eq_true, decide_eq_true_eq] at hf
        omega⟩
      clear hf
      by_cases hv : 100 < vs.length
      · have hv1 : decide ((100 : Int) < (vs.length : Int)) = true := decide_eq_true (by omega)
        have hv2 : decide (100 < vs.length) = true := decide_eq_true hv
        go_enter Tryd.func5, Tryd.ntmps5
        go_upto_region 1 with fail
        generalize hW : W.alloc (.cells (c41 t A c B d) 41) = W0 at *
        clear hW
        obtain ⟨k0, k1, k2, k3, k4, kl0, kln⟩ := X.box
        go_wp2_with (first
          | (go_at_call 18; refine (HG.out _ X.P).mono ?_; rintro e w1 ⟨rfl, hb⟩; have HB1 := Aside0.mk (below_step HBW.out hb); have HN1 := Aside0.mk (HN.out.below hb); have HC1 := Aside0.mk (Kd.C_below HCa.out hb); clear hb)
          | (go_at_call 9; refine (HF.out _ HC1.out).mono ?_; rintro e w2 ⟨rfl, hb⟩; have HB2 := Aside0.mk (below_step HB1.out hb); have HN2 := Aside0.mk (HN1.out.below hb); clear hb)
          | (go_at_call 10; refine (law_alive _ HN2.out).mono ?_; rintro e w3 ⟨rfl, hb⟩; have HB3 := Aside0.mk (below_step HB2.out hb); clear hb))
        go_ret
        exact ⟨rfl, HB3.out⟩
      · have hv1 : decide ((100 : Int) < (vs.length : Int)) = false := decide_eq_false (by omega)
        have hv2 : decide (100 < vs.length) = false := decide_eq_false hv
        have HQ1 := Aside0.mk (fun V (hb : Below W.heap.size W V) => ts_Holds W at_ vs t A c B d Aa ca Av cv V HP.out hb)
        have HQ2 := Aside0.mk (fun V (hb : Below W.heap.size W V) => ref_Holds W at_ vs t A c B d Aa ca Av cv V HP.out hb)
        have HQ3 := Aside0.mk (fun V (hb : Below W.heap.size W V) => ts_Literal W at_ t A c B d Aa ca V HP.out hb)
        have HQ4 := Aside0.mk (fun V (hb : Below W.heap.size W V) => ref_Literal W at_ t A c B d Aa ca V HP.out hb)
        have HNW : Aside0 (∀ V, Below W.heap.size W V → Needs V) := ⟨fun V hb => HN0.out.below hb⟩
        generalize (holdsB at_ vs t).1 = b1 at *
        generalize (holdsB at_ vs t).2 = b2 at *
        generalize (litB at_ t).1 = n1 at *
        generalize (litB at_ t).2 = b3 at *
        have e1 : (b1 == b1) = true := by simp
        have e2 : (b2 == b2) = true := by simp
        have e3 : (b3 == b3) = true := by simp
        have e4 : (n1 == n1) = true := by simp
        go_enter Tryd.func5, Tryd.ntmps5
        go_upto_region 1 with fail
        generalize hW : W.alloc (.cells (c41 t A c B d) 41) = W0 at *
        clear hW
        obtain ⟨k0, k1, k2, k3, k4, kl0, kln⟩ := X.box
        go_wp2_with (first
          | (go_at_call 18; refine (HG.out _ X.P).mono ?_; rintro e w1 ⟨rfl, hb⟩; have HB1 := Aside0.mk (below_step HBW.out hb); have HN1 := Aside0.mk (HN.out.below hb); have HC1 := Aside0.mk (Kd.C_below HCa.out hb); have X1 := X.below hb; clear hb)
          | (go_at_call 9; refine (HF.out _ HC1.out).mono ?_; rintro e w2 ⟨rfl, hb⟩; have HB2 := Aside0.mk (below_step HB1.out hb); have X2 := X1.below hb; obtain ⟨l0, l1, l2, l3, l4, ll0, lln⟩ := X2.box; clear hb)
          | (go_at_call 19; refine (HQ1.out _ HB2.out (HNW.out _ HB2.out) HS.out (HRA.out.below HB2.out) HAL.out (Kd.C_below HVC.out HB2.out)).mono ?_; rintro e w3 ⟨rfl, hb⟩; have HB3 := Aside0.mk (below_step HB2.out hb); have X3 := X2.below hb; obtain ⟨m0, m1, m2, m3, m4, ml0, mln⟩ := X3.box; clear hb)
          | (go_at_call 20; refine (HQ2.out _ HB3.out HS.out (HRA.out.below HB3.out) HAL.out (Kd.C_below HVC.out HB3.out)).mono ?_; rintro e w4 ⟨rfl, hb⟩; have HB4 := Aside0.mk (below_step HB3.out hb); have X4 := X3.below hb; obtain ⟨n0, n1_, n2, n3, n4, nl0, nln⟩ := X4.box; clear hb)
          | (go_at_call 21; refine (HQ3.out _ HB4.out (HRA.out.below HB4.out) HAL.out).mono ?_; rintro e w5 ⟨rfl, hb⟩; have HB5 := Aside0.mk (below_step HB4.out hb); have X5 := X4.below hb; obtain ⟨o0, o1, o2, o3, o4, ol0, oln⟩ := X5.box; clear hb)
          | (go_at_call 22; refine (HQ4.out _ HB5.out (HRA.out.below HB5.out) HAL.out).mono ?_; rintro e w6 ⟨rfl, hb⟩; have HB6 := Aside0.mk (below_step HB5.out hb); clear hb)
          | (go_at_call 10; refine (law_alive _ (HNW.out _ HB6.out)).mono ?_; rintro e w7 ⟨rfl, hb⟩; have HB7 := Aside0.mk (below_step HB6.out hb); clear hb))
        go_ret
        exact ⟨rfl, HB7.out⟩
end Go.Proofs.YtbfgoopomfenjaaDoor
