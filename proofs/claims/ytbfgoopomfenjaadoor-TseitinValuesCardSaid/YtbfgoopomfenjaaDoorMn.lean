import Derived.Test.YtbfgoopomfenjaaDoorMk
namespace Go.Proofs.YtbfgoopomfenjaaDoor
open Go.RowKit Go.Proofs.YtbfgoopomfenjaaDoorW.PrintWords Go.Proofs.YtbfgoopomfenjaaDoorW.PrintLast Go.Proofs.YtbfgoopomfenjaaDoor.PTseitinValues
set_option linter.unusedVariables false
set_option linter.unusedSimpArgs false
attribute [local go_sem] World.cell?_alloc_lt
attribute [local go_sem] run_store_fn

def RTV (w0 : World) (at_ : List S41) (vs : List Bool) (t : S41) : Prop := ∀ (A : Option Addr) (c : Nat) (B : Option Addr) (d : Nat) (Aa : Option Addr) (ca : Nat) (Av : Option Addr) (cv : Nat) (W : World), P41 w0 t A c B d → Below w0.heap.size w0 W → cparts t = 0 →
  (∀ a ∈ leaves t, 0 ≤ posn at_ a ∧ posn at_ a < vs.length) → RA w0 W Aa at_ → at_.length ≤ 1000000 → kB.C W Av vs.length vs →
  Calls Tryd.prog 46 #[v41 t A c B d, .slice Aa at_.length ca, .slice Av vs.length cv] W fun e W' => e = .returned (.bool (tv (lv at_ vs) t)) ∧ Below W.heap.size W W'

theorem T41.at0 {w : World} {ad : Addr} {t : S41} {A : Option Addr} {c : Nat} {B : Option Addr} {d : Nat} (h : T41 w (ad.add (0 * 5)) t A c B d) : T41 w ad t A c B d := by
  rw [Nat.zero_mul, add_zero_] at h; exact h
theorem T41.at1 {w : World} {ad : Addr} {t : S41} {A : Option Addr} {c : Nat} {B : Option Addr} {d : Nat} (h : T41 w (ad.add (1 * 5)) t A c B d) :
    w.cell? ⟨ad.block, ad.off + 5, none⟩ = some (.int .i64 t.f0) ∧ w.cell? ⟨ad.block, ad.off + 6, none⟩ = some (.string t.f1) ∧ w.cell? ⟨ad.block, ad.off + 7, none⟩ = some (.string t.f2) ∧ w.cell? ⟨ad.block, ad.off + 8, none⟩ = some (.slice A t.f3.length c) ∧ w.cell? ⟨ad.block, ad.off + 9, none⟩ = some (.slice B t.f4.length d) := by
  have e : ad.add (1 * 5) = ⟨ad.block, ad.off + 5, none⟩ := by
    have h := add_field ad 0 5 (by omega)
    rwa [add_zero_] at h
  obtain ⟨h0, h1, h2, h3, h4, _⟩ := h
  rw [e] at h0 h1 h2 h3 h4
  exact ⟨h0, h1, h2, h3, h4⟩

set_option maxRecDepth 100000 in
set_option maxHeartbeats 4000000 in
theorem rt_leaf (w0 : World) (at_ : List S41) (vs : List Bool) (t : S41) (hp : isPart t.f0 = false) : RTV w0 at_ vs t := by
  intro A c B d Aa ca Av cv W hP hB hR hlv hRA hal hVC
  obtain ⟨⟨h1, h2⟩, _, _⟩ := cparts_ok hR
  obtain ⟨p1, p2⟩ := hlv t (by rw [leaves_eq, if_neg (by rw [hp]; decide)]; simp)
  obtain ⟨k, hk⟩ := Int.eq_ofNat_of_zero_le p1
  have hkl : k < vs.length := by omega
  obtain ⟨x, ad, hx, rfl, hc, hlt⟩ := atB hVC k hkl
  have HTV : Aside0 (tv (lv at_ vs) t = x) := ⟨by rw [tv_eq, if_neg (by rw [hp]; decide)]; unfold lv; rw [hk, Int.toNat_natCast, List.getD_eq_getElem?_getD, hx]; rfl⟩
  have hBW : Below W.heap.size W (W.alloc (.cells (c41 t A c B d) 41)) := below_alloc (Below.refl _ _) _
  have X : T41 (W.alloc (.cells (c41 t A c B d) 41)) ⟨W.heap.size, 0, none⟩ t A c B d := T41.mk_box (w := W) (blk_new _ _) (hP.below hB) hBW
  have hcap : vs.length ≤ 9223372036854775807 := hVC.2.1
  have HBb := Aside0.mk (hB.trans (hBW.mono hB.size))
  have HRA := Aside0.mk (hRA.below hBW)
  have hcx := (hBW.cell (p := ad.add k) hlt).trans hc
  have hlt2 : (ad.add k).block < (W.alloc (.cells (c41 t A c B d) 41)).heap.size := Nat.lt_of_lt_of_le hlt hBW.size
  have HBW := Aside0.mk hBW
  clear hBW hP hB hRA hVC hlv hR hx hc hlt p1 p2
  go_enter Tryd.func46, Tryd.ntmps46
  go_upto_region 1 with fail
  generalize hW : W.alloc (.cells (c41 t A c B d) 41) = W0 at *
  clear hW
  obtain ⟨k0, k1, k2, k3, k4, kl0, kln⟩ := X.box
  have hk0 : (0 : Int) ≤ (k : Int) := Int.natCast_nonneg _
  have hk1 : (k : Int) ≤ 9223372036854775806 := by omega
  go_wp2_with (first
    | (go_at_call 64; refine (ref_part t A c B d _ h1 h2).mono ?_; rintro e w1 ⟨rfl, hb⟩; have X1 := X.below hb; obtain ⟨m0, m1, m2, m3, m4, ml0, mln⟩ := X1.box; have HB1 := Aside0.mk (HBb.out.trans (hb.mono HBb.out.size)); have HRA1 := Aside0.mk (HRA.out.below hb); have HBW1 := Aside0.mk (below_step HBW.out hb); have hc1 := (hb.cell (p := ad.add k) hlt2).trans hcx; have hl1 := Nat.lt_of_lt_of_le hlt2 hb.size; clear hb; rw [hp])
    | (go_at_call 45; refine (ref_placeR w0 at_ t Aa ca A c B d _ HB1.out HRA1.out X1.P hal).mono ?_; rintro e w2 ⟨rfl, hb⟩; have HBW2 := Aside0.mk (below_step HBW1.out hb); have hc2 := (hb.cell (p := ad.add k) hl1).trans hc1; have hl2 := Nat.lt_of_lt_of_le hl1 hb.size; clear hb; rw [hk]))
  go_ret
  exact ⟨by rw [HTV.out]; rfl, HBW2.out⟩

set_option maxRecDepth 100000 in
set_option maxHeartbeats 4000000 in
theorem rt_node (w0 : World) (at_ : List S41) (vs : List Bool) (t : S41) (hp : isPart t.f0 = true) (ih : ∀ (k : Nat) (x : S41), t.f4[k]? = some x → RTV w0 at_ vs x) : RTV w0 at_ vs t := by
  intro A c B d Aa ca Av cv W hP hB hR hlv hRA hal hVC
  obtain ⟨⟨h1, h2⟩, hsub, hok⟩ := cparts_ok hR
  have HTV : Aside0 (tv (lv at_ vs) t = hv t.f0 (t.f4.map (tv (lv at_ vs)))) := ⟨by rw [tv_eq, if_pos hp, tvL_map]⟩
  have HLV : Aside0 (∀ x ∈ t.f4, ∀ a ∈ leaves x, 0 ≤ posn at_ a ∧ posn at_ a < vs.length) := ⟨fun x hx a ha => hlv a (by rw [leaves_eq, if_pos hp]; exact leavesL_mem.2 ⟨x, hx, ha⟩)⟩
  have HOK := Aside0.mk hok
  have HIH := Aside0.mk ih
  have HSUB := Aside0.mk hsub
  have hBW : Below W.heap.size W (W.alloc (.cells (c41 t A c B d) 41)) := below_alloc (Below.refl _ _) _
  have X : T41 (W.alloc (.cells (c41 t A c B d) 41)) ⟨W.heap.size, 0, none⟩ t A c B d := T41.mk_box (w := W) (blk_new _ _) (hP.below hB) hBW
  have HP := Aside0.mk hP
  have HBb := Aside0.mk (hB.trans (hBW.mono hB.size))
  have HRA := Aside0.mk (hRA.below hBW)
  have HVC := Aside0.mk (Kd.C_below hVC hBW)
  have HBW := Aside0.mk hBW
  clear hBW hP hB hRA hVC hlv hR hsub hok ih
  go_enter Tryd.func46, Tryd.ntmps46
  go_upto_region 1 with fail
  generalize hW : W.alloc (.cells (c41 t A c B d) 41) = W0 at *
  clear hW
  obtain ⟨k0, k1, k2, k3, k4, kl0, kln⟩ := X.box
  go_upto_region 3 with (first
    | (go_at_call 64; refine (ref_part t A c B d _ h1 h2).mono ?_; rintro e w1 ⟨rfl, hb⟩; have X1 := X.below hb; have HB1 := Aside0.mk (HBb.out.trans (hb.mono HBb.out.size)); have HRA1 := Aside0.mk (HRA.out.below hb); have HVC1 := Aside0.mk (Kd.C_below HVC.out hb); have HBW1 := Aside0.mk (below_step HBW.out hb); clear hb; rw [hp]))
  clear k0 k1 k2 k3 k4 kl0 kln X HBb HRA HVC
  obtain hop | hop | hop | hop | hop | hop | hop : t.f0 = 1 ∨ t.f0 = 2 ∨ t.f0 = 6 ∨ t.f0 = 7 ∨ t.f0 = 8 ∨ t.f0 = 9 ∨ t.f0 = 10 := by
    unfold isPart at hp; simp only [Bool.or_eq_true, Bool.and_eq_true, beq_iff_eq, decide_eq_true_eq] at hp; omega
  · obtain ⟨m0, m1, m2, m3, m4, ml0, mln⟩ := X1.box
    rw [hop] at m0 HTV
    go_wp2_with fail
    go_ret
    exact ⟨by rw [HTV.out]; rfl, HBW1.out⟩
  · obtain ⟨m0, m1, m2, m3, m4, ml0, mln⟩ := X1.box
    rw [hop] at m0 HTV
    go_wp2_with fail
    go_ret
    exact ⟨by rw [HTV.out]; rfl, HBW1.out⟩
  · obtain ⟨m0, m1, m2, m3, m4, ml0, mln⟩ := X1.box
    have h4 : t.f4.length = 1 := by have h5 := HSUB.out; rw [hop] at h5; have e : csN 6 = 1 := rfl; omega
    obtain ⟨x, ad, A3, c3, B3, d3, hx, rfl, Z0⟩ := at41 HP.out.C2 0 (by omega)
    have hxe : t.f4 = [x] := by
      obtain ⟨y, hy⟩ := List.length_eq_one_iff.1 h4
      rw [hy] at hx ⊢
      have : y = x := by simpa using hx
      rw [this]
    have Z := (Z0.below HB1.out).at0
    obtain ⟨z0, z1, z2, z3, z4, zl0, zln⟩ := Z.cells
    have HQ := Aside0.mk (HIH.out 0 x hx A3 c3 B3 d3 Aa ca Av cv w1 Z0.P HB1.out (HOK.out 0 x hx) (HLV.out x (List.mem_of_getElem? hx)) HRA1.out hal HVC1.out)
    rw [hop] at m0 HTV
    rw [hxe] at HTV
    rw [h4] at m4
    clear hx Z0 hxe
    rw [h4]
    generalize htv : tv (lv at_ vs) x = b at *
    go_wp2_with (first | (go_at_call 46; refine HQ.out.mono ?_; rintro e w2 ⟨rfl, hb⟩; have HB2 := Aside0.mk (below_step HBW1.out hb); clear hb))
    go_ret
    exact ⟨by rw [HTV.out]; simp [hv, htv], HB2.out⟩
  all_goals (
    obtain ⟨m0, m1, m2, m3, m4, ml0, mln⟩ := X1.box
    have h4 : t.f4.length = 2 := by have h5 := HSUB.out; rw [hop] at h5; have e : csN 7 = 2 := rfl; have e : csN 8 = 2 := rfl; have e : csN 9 = 2 := rfl; have e : csN 10 = 2 := rfl; omega
    obtain ⟨x, ad, A3, c3, B3, d3, hx, rfl, Z0⟩ := at41 HP.out.C2 0 (by omega)
    obtain ⟨y, ad', A4, c4, B4, d4, hy, he, Y0⟩ := at41 HP.out.C2 1 (by omega)
    obtain rfl : ad = ad' := by injection he
    have hxe : t.f4 = [x, y] := by
      obtain ⟨u, v, hu⟩ : ∃ u v, t.f4 = [u, v] := by
        match t.f4, h4 with
        | [u, v], _ => exact ⟨u, v, rfl⟩
      rw [hu] at hx hy ⊢
      have e1 : u = x := by simpa using hx
      have e2 : v = y := by simpa using hy
      rw [e1, e2]
    have HZX := Aside0.mk (Z0.below HB1.out).at0
    have HZY := Aside0.mk (Y0.below HB1.out)
    obtain ⟨z0, z1, z2, z3, z4, zl0, zln⟩ := HZX.out.cells
    obtain ⟨y0, y1, y2, y3, y4⟩ := HZY.out.at1
    have HQx : Aside0 (∀ V, Below w1.heap.size w1 V → Calls Tryd.prog 46 #[v41 x A3 c3 B3 d3, .slice Aa at_.length ca, .slice Av vs.length cv] V fun e W' => e = .returned (.bool (tv (lv at_ vs) x)) ∧ Below V.heap.size V W') := ⟨fun V hV => HIH.out 0 x hx A3 c3 B3 d3 Aa ca Av cv V Z0.P (HB1.out.trans (hV.mono HB1.out.size)) (HOK.out 0 x hx) (HLV.out x (List.mem_of_getElem? hx)) (HRA1.out.below hV) hal (Kd.C_below HVC1.out hV)⟩
    have HQy : Aside0 (∀ V, Below w1.heap.size w1 V → Calls Tryd.prog 46 #[v41 y A4 c4 B4 d4, .slice Aa at_.length ca, .slice Av vs.length cv] V fun e W' => e = .returned (.bool (tv (lv at_ vs) y)) ∧ Below V.heap.size V W') := ⟨fun V hV => HIH.out 1 y hy A4 c4 B4 d4 Aa ca Av cv V Y0.P (HB1.out.trans (hV.mono HB1.out.size)) (HOK.out 1 y hy) (HLV.out y (List.mem_of_getElem? hy)) (HRA1.out.below hV) hal (Kd.C_below HVC1.out hV)⟩
    rw [hop] at m0 HTV
    rw [hxe] at HTV
    rw [h4] at m4
    have HM4 := Aside0.mk m4
    have HLT := Aside0.mk ml0
    clear hx hy Z0 Y0 hxe he
    rw [h4]
    generalize htx : tv (lv at_ vs) x = bx at *
    generalize hty : tv (lv at_ vs) y = by_ at *
    go_upto_region 9 with fail
    go_region_held3 (fun V => V.cell? ⟨W.heap.size, 4, none⟩ = some (.slice (some ad) 2 d) ∧ V.cell? ad = some (.int .i64 x.f0) ∧ V.cell? ⟨ad.block, ad.off + 1, none⟩ = some (.string x.f1) ∧ V.cell? ⟨ad.block, ad.off + 2, none⟩ = some (.string x.f2) ∧ V.cell? ⟨ad.block, ad.off + 3, none⟩ = some (.slice A3 x.f3.length c3) ∧ V.cell? ⟨ad.block, ad.off + 4, none⟩ = some (.slice B3 x.f4.length d3) ∧ V.cell? ⟨ad.block, ad.off + 5, none⟩ = some (.int .i64 y.f0) ∧ V.cell? ⟨ad.block, ad.off + 6, none⟩ = some (.string y.f1) ∧ V.cell? ⟨ad.block, ad.off + 7, none⟩ = some (.string y.f2) ∧ V.cell? ⟨ad.block, ad.off + 8, none⟩ = some (.slice A4 y.f3.length c4) ∧ V.cell? ⟨ad.block, ad.off + 9, none⟩ = some (.slice B4 y.f4.length d4)) (go_keep) (first | (go_at_call 46; refine (HQy.out _ HB2.out).mono ?_; rintro e w3 ⟨rfl, hb⟩; have hbz := below_step HB2.out hb; have HB3 := Aside0.mk hbz; have QX := (HZX.out.below hbz); have QY := (HZY.out.below hbz); obtain ⟨g0, g1, g2, g3, g4, gl0, gln⟩ := QX.cells; obtain ⟨f0_, f1_, f2_, f3_, f4_⟩ := QY.at1; have gt := (hbz.cell (p := ⟨W.heap.size, 4, none⟩) HLT.out).trans HM4.out; have gtl := Nat.lt_of_lt_of_le HLT.out hbz.size; clear QX QY; clear hb hbz) | (go_at_call 46; refine (HQx.out _ (Below.refl _ _).drew).mono ?_; rintro e w2 ⟨rfl, hb⟩; have hbz := Below.trans (Below.refl w1.heap.size w1).drew hb; have HB2 := Aside0.mk hbz; have QX := (HZX.out.below hbz); have QY := (HZY.out.below hbz); obtain ⟨g0, g1, g2, g3, g4, gl0, gln⟩ := QX.cells; obtain ⟨f0_, f1_, f2_, f3_, f4_⟩ := QY.at1; have gt := (hbz.cell (p := ⟨W.heap.size, 4, none⟩) HLT.out).trans HM4.out; have gtl := Nat.lt_of_lt_of_le HLT.out hbz.size; clear QX QY; clear hb hbz)))
  · have HM0 : w3.cell? ⟨W.heap.size, 0, none⟩ = some (.int .i64 7) := (HB3.out.cell (p := ⟨W.heap.size, 0, none⟩) HLT.out).trans m0
    cases bx <;> cases by_ <;> (go_wp2_with fail; go_ret; exact ⟨by rw [HTV.out]; simp [hv, htx, hty], HBW1.out.trans (HB3.out.mono HBW1.out.size)⟩)
  · have HM0 : w3.cell? ⟨W.heap.size, 0, none⟩ = some (.int .i64 8) := (HB3.out.cell (p := ⟨W.heap.size, 0, none⟩) HLT.out).trans m0
    cases bx <;> cases by_ <;> (go_wp2_with fail; go_ret; exact ⟨by rw [HTV.out]; simp [hv, htx, hty], HBW1.out.trans (HB3.out.mono HBW1.out.size)⟩)
  · have HM0 : w3.cell? ⟨W.heap.size, 0, none⟩ = some (.int .i64 9) := (HB3.out.cell (p := ⟨W.heap.size, 0, none⟩) HLT.out).trans m0
    cases bx <;> cases by_ <;> (go_wp2_with fail; go_ret; exact ⟨by rw [HTV.out]; simp [hv, htx, hty], HBW1.out.trans (HB3.out.mono HBW1.out.size)⟩)
  · have HM0 : w3.cell? ⟨W.heap.size, 0, none⟩ = some (.int .i64 10) := (HB3.out.cell (p := ⟨W.heap.size, 0, none⟩) HLT.out).trans m0
    cases bx <;> cases by_ <;> (go_wp2_with fail; go_ret; exact ⟨by rw [HTV.out]; simp [hv, htx, hty], HBW1.out.trans (HB3.out.mono HBW1.out.size)⟩)
theorem rt_all (w0 : World) (at_ : List S41) (vs : List Bool) (q : Nat) : ∀ t : S41, csize t ≤ q → RTV w0 at_ vs t := by
  induction q with
  | zero => intro t h; rw [csize_eq] at h; omega
  | succ q ih =>
    intro t hq
    cases hp : isPart t.f0 with
    | false => exact rt_leaf w0 at_ vs t hp
    | true => exact rt_node w0 at_ vs t hp (fun k x hx => ih x (by have := csize_sub hx; omega))
/-- sequiturref26.True. -/
theorem ref_True (w0 : World) (at_ : List S41) (vs : List Bool) (t : S41) : RTV w0 at_ vs t := rt_all w0 at_ vs _ t (Nat.le_refl _)
end Go.Proofs.YtbfgoopomfenjaaDoor
