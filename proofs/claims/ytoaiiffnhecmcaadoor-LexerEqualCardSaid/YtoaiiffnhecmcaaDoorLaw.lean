/-
  LexerEqual returns true at any two slices of tokens and any two bytes, and of what was there nothing turns. Conditions: the slices' cells read as tokens; strings.asciiSpace holds the table that the program's text lays.
-/
import Derived.Test.YtoaiiffnhecmcaaDoorFlat
import Derived.Test.YtoaiiffnhecmcaaDoorLk
import Derived.Deep.DeepCutAuto
namespace Go.Proofs.YtoaiiffnhecmcaaDoor
open Go.RowKit Go.Proofs.YtoaiiffnhecmcaaDoorW.PrintWords Go.Proofs.YtoaiiffnhecmcaaDoorW.PrintLast Go.Proofs.YtoaiiffnhecmcaaDoorW.PrintMore
open PLexerEqual
attribute [local go_sem] max2_int min2_int max_two min_two max_three min_three max_four min_four
set_option linter.unusedVariables false
set_option linter.unusedSimpArgs false

/-- What holds of c behind the switch: it reads as some list of at most 100 tokens; of what was there nothing has turned. -/
def CutP (w : World) (v : Value) (W : World) : Prop :=
  ∃ (l2 : List S26) (A2 : Option Addr) (c2 : Nat), v = .slice A2 l2.length c2 ∧ l2.length ≤ 100 ∧ l2.length ≤ c2 ∧ Kd.C k26 W A2 l2.length l2 ∧ Below w.heap.size w W

theorem own_cell {w : World} {base g n cap : Nat} {l : List S26} (h : w.ownsRow base 26 5 (.slice (some ⟨g, 0, none⟩) n cap) n (flat l)) {j : Nat} {x : S26} (hx : l[j]? = some x) {f : Nat} {u : Value} (hu : (cells26 x)[f]? = some u) (hf : f < 5) : w.cell? ⟨g, j * 5 + f, none⟩ = some u := by
  have := h.cells (g := g) rfl (j * 5 + f) u (by rw [flat_get l j f x hx hf]; exact hu)
  have hadd : (⟨g, 0, none⟩ : Addr).add (j * 5 + f) = ⟨g, j * 5 + f, none⟩ := by unfold Addr.add; split <;> simp_all
  rw [hadd] at this
  exact this

theorem cut_set {w w3 : World} {g n cap : Nat} {l : List S26} (h : w3.ownsRow g 26 5 (.slice (some ⟨g, 0, none⟩) n cap) n (flat l)) (hb : Below w.heap.size w w3) (hg : w.heap.size ≤ g) {j : Nat} {x x' : S26} (hx : l[j]? = some x) {f : Nat} {u : Value} (hf : f < 5) (hc : cells26 x' = (cells26 x).set f u) (hn : n ≤ 100) (hcap : n ≤ cap) :
    CutP w (.slice (some ⟨g, 0, none⟩) n cap) (w3.setCell ⟨g, j * 5 + f, none⟩ u) := by
  have hs := (h.stored (j * 5 + f) u).1
  rw [← flat_set l j f x x' u hx hf hc] at hs
  obtain ⟨hl, hC⟩ := C_own hs (by omega)
  refine ⟨l.set j x', some ⟨g, 0, none⟩, cap, by rw [hl], by omega, by omega, by rw [hl]; exact hC, hb.setCell hg _⟩

theorem cut_take {w w3 : World} {g n m cap : Nat} {l : List S26} (h : w3.ownsRow g 26 5 (.slice (some ⟨g, 0, none⟩) n cap) n (flat l)) (hb : Below w.heap.size w w3) (hn : n ≤ 100) (hm : m ≤ n) (hcap : n ≤ cap) :
    CutP w (.slice (some ⟨g, 0, none⟩) m cap) w3 := by
  obtain ⟨hl, hC⟩ := C_own h (by omega)
  have hl2 : (l.take m).length = m := by rw [List.length_take]; omega
  exact ⟨l.take m, some ⟨g, 0, none⟩, cap, by rw [hl2], by omega, by omega, by rw [hl2]; exact C_take hC hm, hb⟩

/-- What the three slices read as, and what was there. -/
structure E0 (w : World) (A0 A1 A2 : Option Addr) (l0 l1 l2 : List S26) (W : World) : Prop where
  bel : Below w.heap.size w W
  r0 : Kd.C k26 W A0 l0.length l0
  r1 : Kd.C k26 W A1 l1.length l1
  r2 : Kd.C k26 W A2 l2.length l2
theorem E0.step {w : World} {A0 A1 A2 : Option Addr} {l0 l1 l2 : List S26} {W W' : World} (h : E0 w A0 A1 A2 l0 l1 l2 W) (hb : Below W.heap.size W W') : E0 w A0 A1 A2 l0 l1 l2 W' :=
  ⟨h.bel.trans (hb.mono h.bel.size), Kd.C_below h.r0 hb, Kd.C_below h.r1 hb, Kd.C_below h.r2 hb⟩
structure E1 (w : World) (A0 A1 A2 Aa Ab Ad : Option Addr) (l0 l1 l2 : List S26) (W : World) : Prop where
  e : E0 w A0 A1 A2 l0 l1 l2 W
  sa : Kd.C k34 W Aa l0.length (l0.map toS)
  sb : Kd.C k34 W Ab l1.length (l1.map toS)
  sd : Kd.C k34 W Ad l2.length (l2.map toS)
theorem E1.step {w : World} {A0 A1 A2 Aa Ab Ad : Option Addr} {l0 l1 l2 : List S26} {W W' : World} (h : E1 w A0 A1 A2 Aa Ab Ad l0 l1 l2 W) (hb : Below W.heap.size W W') : E1 w A0 A1 A2 Aa Ab Ad l0 l1 l2 W' :=
  ⟨h.e.step hb, Kd.C_below h.sa hb, Kd.C_below h.sb hb, Kd.C_below h.sd hb⟩

set_option maxHeartbeats 2000000 in
set_option maxRecDepth 100000 in
theorem law_any (A0 A1 : Option Addr) (n0 n1 c0 c1 k0 k1 : Nat) (a b : Int) (l0 l1 : List S26) (w : World) (hr0 : Kd.C k26 w A0 k0 l0) (hr1 : Kd.C k26 w A1 k1 l1) (hnil : A0 = none → k0 = 0 ∧ c0 = 0)
    (hm0 : (if (100 : Int) < (n0 : Int) then (100 : Int) else (n0 : Int)) = (k0 : Int)) (hm1 : (if (100 : Int) < (n1 : Int) then (100 : Int) else (n1 : Int)) = (k1 : Int)) (hk0 : k0 ≤ 100) (hk1 : k1 ≤ 100)
    (hc0 : k0 ≤ c0) (hc1 : k1 ≤ c1) (hx0 : c0 ≤ 9223372036854775807) (hx1 : c1 ≤ 9223372036854775807) (ha0 : 0 ≤ a) (ha1 : a ≤ 255) (hb0 : 0 ≤ b) (hb1 : b ≤ 255) (htab : Tab w) (htxt : ∀ x ∈ l0, x.f1.size ≤ 140737488351232) :
    Calls Tryd.prog 3 #[.slice A0 n0 c0, .slice A1 n1 c1, .int .u8 a, .int .u8 b] w fun e w' => e = .returned (.bool true) ∧ Below w.heap.size w w' := by
  obtain ⟨an, rfl⟩ := Int.eq_ofNat_of_zero_le ha0
  have HR0 := Aside0.mk hr0
  have HR1 := Aside0.mk hr1
  have HN := Aside0.mk hnil
  have HT := Aside0.mk htab
  have HTX := Aside0.mk htxt
  clear hr0 hr1 hnil htab htxt
  go_enter Tryd.func3, Tryd.ntmps3
  go_wp2_with fail
  go_quiet (fail)
  clear hm0 hm1
  have HB0 : Aside0 (Below w.heap.size w (w.drewN nq)) := ⟨pw_below_drewN (Below.refl _ _) nq⟩
  have HZ0 : Aside0 ((w.drewN nq).heap.size = w.heap.size) := ⟨rfl⟩
  generalize w.drewN nq = w1 at *
  obtain ⟨i0, hi0, hz0, hz1, hz2⟩ := info_parts info26
  have HI := Lib.hid hi0
  have HZ := Lib.hid (And.intro hz0 (And.intro hz1 hz2))
  clear hi0 hz0 hz1 hz2
  go_wp2_with (at_make; go_must (refine wpList_make_own _ rfl _ _ 22 rfl w1.heap.size 26 i0 (.agg #[.int .i64 0, .string ⟨#[]⟩, .int .i64 0, .int .i64 0, .int .i64 0]) 5 Tryd.underlying22 HI.out HZ.out.1 HZ.out.2.1 _ _ _ (k0 + 3) rfl rfl ?_ ?_ ?_ ?_ ?_))
  · omega
  · rw [HZ.out.2.2]; omega
  · unfold maxLen; omega
  · exact Nat.le_refl _
  intro w2 hown2 hg2
  have HO2 := Lib.hid hown2
  have HG2 := Lib.hid hg2
  clear hown2 hg2
  go_wp2_with (at_builtin; go_must (refine wpList_append_fits_any _ rfl _ _ 22 rfl w1.heap.size 26 i0 5 Tryd.underlying22 HI.out HZ.out.2.1 w1.heap.size 0 (k0 + 3) [] rfl HO2.out A0 k0 c0 (flat l0) rfl ?_ ?_ ?_ ?_ ?_ ?_))
  · rw [flat_length, HR0.out.1]
  · exact HN.out
  · intro ad hA j u hu
    subst hA
    have h1 := pw_cell_below HB0.out (C_flat HR0.out j u hu)
    exact HG2.out.cell h1 (by simp)
  · exact flat_one l0
  · omega
  intro w3 hown3 hg3
  have HO3 := Lib.hid hown3
  have HB3 : Aside0 (Below w.heap.size w w3) := ⟨by
    have hs := HZ0.out
    exact (HB0.out.grown HG2.out (by omega) (fun k hk => by cases hk)).grown hg3 (by have := HG2.out.size; omega) (fun k hk => by cases hk; omega)⟩
  clear hown3 hg3
  have HO3' : Hid (w3.ownsRow w1.heap.size 26 5 (.slice (some ⟨w1.heap.size, 0, none⟩) k0 (k0 + 3)) k0 (flat l0)) := Lib.hid HO3.out
  have HG1 : Aside0 (w.heap.size ≤ w1.heap.size) := ⟨by have := HZ0.out; omega⟩
  clear HO3 HO2 HG2 HI HZ HN HB0 HZ0
  go_upto_if 34 with fail
  go_cut [9] (fun v9 wx => CutP w v9 wx)
  case first =>
    by_cases hk : 0 < k0
    · have hjlt : an % k0 < k0 := Nat.mod_lt _ hk
      have hj : ((an : Int) % (k0 : Int)) = ((an % k0 : Nat) : Int) := by simp
      generalize an % k0 = j at hj hjlt
      obtain ⟨x, hx⟩ : ∃ x, l0[j]? = some x := ⟨_, List.getElem?_eq_getElem (by have := HR0.out.1; omega)⟩
      have p0 : w3.cell? ⟨w1.heap.size, j * 5, none⟩ = some (.int .i64 x.f0) := own_cell HO3'.out hx (f := 0) rfl (by omega)
      have p1 : w3.cell? ⟨w1.heap.size, j * 5 + 1, none⟩ = some (.string x.f1) := own_cell HO3'.out hx (f := 1) rfl (by omega)
      have p2 : w3.cell? ⟨w1.heap.size, j * 5 + 2, none⟩ = some (.int .i64 x.f2) := own_cell HO3'.out hx (f := 2) rfl (by omega)
      have p3 : w3.cell? ⟨w1.heap.size, j * 5 + 3, none⟩ = some (.int .i64 x.f3.f0) := own_cell HO3'.out hx (f := 3) rfl (by omega)
      have pf : ∀ i, w3.frozen? ⟨w1.heap.size, i, none⟩ = false := fun i => HO3'.out.frozenAt i
      have htx : x.f1.size ≤ 140737488351232 := HTX.out x (List.mem_of_getElem? hx)
      have HX := Aside0.mk hx
      clear hx
      by_cases h0 : b % 6 = 0
      · go_wp2_with fail
        go_meet
        exact cut_set HO3'.out HB3.out HG1.out HX.out (f := 0) (x' := ⟨wrap64 (x.f0 + 1), x.f1, x.f2, x.f3⟩) (by omega) rfl hk0 (by omega)
      · by_cases h1 : b % 6 = 1
        · go_wp2_with fail
          go_meet
          exact cut_set HO3'.out HB3.out HG1.out HX.out (f := 1) (x' := ⟨x.f0, x.f1 ++ ⟨#[39]⟩, x.f2, x.f3⟩) (by omega) rfl hk0 (by omega)
        · by_cases h2 : b % 6 = 2
          · go_wp2_with fail
            go_meet
            exact cut_set HO3'.out HB3.out HG1.out HX.out (f := 2) (x' := ⟨x.f0, x.f1, bits BinOp.xor IntKind.i64 x.f2 1, x.f3⟩) (by omega) rfl hk0 (by omega)
          · by_cases h3 : b % 6 = 3
            · go_wp2_with fail
              go_meet
              exact cut_set HO3'.out HB3.out HG1.out HX.out (f := 3) (x' := ⟨x.f0, x.f1, x.f2, ⟨wrap64 (x.f3.f0 + 1), x.f3.f1⟩⟩) (by omega) rfl hk0 (by omega)
            · by_cases h4 : b % 6 = 4
              · go_wp2_with fail
                go_meet
                exact cut_take HO3'.out HB3.out hk0 (Nat.sub_le _ _) (by omega)
              · go_wp2_with fail
                go_meet
                exact cut_take HO3'.out HB3.out hk0 (Nat.le_refl _) (by omega)
    · go_wp2_with fail
      go_meet
      exact cut_take HO3'.out HB3.out hk0 (Nat.le_refl _) (by omega)
  case rest =>
    obtain ⟨l2, A2, c2, rfl, h2n, hc2, hr2, hbc⟩ := hcut
    have e0 := HR0.out.1
    have e1 := HR1.out.1
    subst k0 k1
    have HE : Aside0 (E0 w A0 A1 A2 l0 l1 l2 wc) := ⟨⟨hbc, Kd.C_below HR0.out hbc, Kd.C_below HR1.out hbc, hr2⟩⟩
    have H0 := Aside0.mk (And.intro hk0 hc0)
    have H1 := Aside0.mk (And.intro hk1 hc1)
    have H2 := Aside0.mk (And.intro h2n hc2)
    clear hk0 hc0 hk1 hc1 h2n hc2 hbc hr2 HO3' HG1 HTX HR0 HR1 HB3
    -- a, b, d := To(l), To(m), To(c)
    go_wp2_with fail
    refine (to_any A0 c0 l0 _ HE.out.r0 H0.out.2 H0.out.1).mono ?_
    rintro e w4 ⟨Aa, ca, rfl, hca, hsa, hb⟩
    have HE4 := Aside0.mk (HE.out.step hb)
    have HA4 := Aside0.mk (And.intro hca hsa)
    clear HE hca hsa hb
    go_wp2_with fail
    refine (to_any A1 c1 l1 _ HE4.out.r1 H1.out.2 H1.out.1).mono ?_
    rintro e w5 ⟨Ab, cb, rfl, hcb, hsb, hb⟩
    have HE5 := Aside0.mk (HE4.out.step hb)
    have HA5 := Aside0.mk (And.intro HA4.out.1 (Kd.C_below HA4.out.2 hb))
    have HB5 := Aside0.mk (And.intro hcb hsb)
    clear HE4 HA4 hcb hsb hb
    go_wp2_with fail
    refine (to_any A2 c2 l2 _ HE5.out.r2 H2.out.2 H2.out.1).mono ?_
    rintro e w6 ⟨Ad, cd, rfl, hcd, hsd, hb⟩
    have HF6 : Aside0 (E1 w A0 A1 A2 Aa Ab Ad l0 l1 l2 w6) := ⟨⟨HE5.out.step hb, Kd.C_below HA5.out.2 hb, Kd.C_below HB5.out.2 hb, hsd⟩⟩
    have HC := Aside0.mk (And.intro HA5.out.1 (And.intro HB5.out.1 hcd))
    clear HE5 HA5 HB5 hcd hsd hb
    have hr00 := eqL_refl l0
    have HR00 := Aside0.mk hr00
    clear hr00
    go_wp2_with fail
    refine (equal_any A0 A1 c0 c1 l0 l1 _ HF6.out.e.r0 HF6.out.e.r1 (by have := H0.out.1; omega)).mono ?_
    rintro e w7 ⟨rfl, hb⟩
    have HF7 := Aside0.mk (HF6.out.step hb)
    clear HF6 hb
    go_wp2_with fail
    refine (agree_any Aa Ab ca cb l0 l1 _ HF7.out.sa HC.out.1 HF7.out.sb HC.out.2.1 H0.out.1).mono ?_
    rintro e w8 ⟨rfl, hb⟩
    have HF8 := Aside0.mk (HF7.out.step hb)
    clear HF7 hb
    go_wp2_with fail
    refine (equal_any A0 A2 c0 c2 l0 l2 _ HF8.out.e.r0 HF8.out.e.r2 (by have := H0.out.1; omega)).mono ?_
    rintro e w9 ⟨rfl, hb⟩
    have HF9 := Aside0.mk (HF8.out.step hb)
    clear HF8 hb
    go_wp2_with fail
    refine (agree_any Aa Ad ca cd l0 l2 _ HF9.out.sa HC.out.1 HF9.out.sd HC.out.2.2 H0.out.1).mono ?_
    rintro e w10 ⟨rfl, hb⟩
    have HF10 := Aside0.mk (HF9.out.step hb)
    clear HF9 hb
    go_wp2_with fail
    refine (equal_any A2 A0 c2 c0 l2 l0 _ HF10.out.e.r2 HF10.out.e.r0 (by have := H2.out.1; omega)).mono ?_
    rintro e w11 ⟨rfl, hb⟩
    have HF11 := Aside0.mk (HF10.out.step hb)
    clear HF10 hb
    go_wp2_with fail
    refine (agree_any Ad Aa cd ca l2 l0 _ HF11.out.sd HC.out.2.2 HF11.out.sa HC.out.1 H2.out.1).mono ?_
    rintro e w12 ⟨rfl, hb⟩
    have HF12 := Aside0.mk (HF11.out.step hb)
    clear HF11 hb
    go_wp2_with fail
    refine (equal_any A0 A0 c0 c0 l0 l0 _ HF12.out.e.r0 HF12.out.e.r0 (by have := H0.out.1; omega)).mono ?_
    rintro e w13 ⟨rfl, hb⟩
    have HF13 := Aside0.mk (HF12.out.step hb)
    clear HF12 hb
    rw [HR00.out]
    go_wp2_with fail
    refine (lawKnown_any _ (HT.out.below HF13.out.e.bel)).mono ?_
    rintro e w14 ⟨rfl, hb⟩
    have HF14 := Aside0.mk (HF13.out.step hb)
    clear HF13 hb
    go_wp2_with fail
    refine (to_any A0 c0 l0 _ HF14.out.e.r0 H0.out.2 H0.out.1).mono ?_
    rintro e w15 ⟨An, cn, rfl, hcn, hsn, hb⟩
    have HF15 := Aside0.mk (HF14.out.step hb)
    have HN := Aside0.mk (And.intro hcn hsn)
    clear HF14 hb hcn hsn
    go_wp2_with fail
    refine (alike_any An Aa cn ca l0 _ HN.out.2 HN.out.1 HF15.out.sa HC.out.1 H0.out.1).mono ?_
    rintro e w16 ⟨rfl, hb⟩
    have HF16 := Aside0.mk (HF15.out.step hb)
    clear HF15 hb HN
    go_wp2_with fail
    refine (to_any A1 c1 l1 _ HF16.out.e.r1 H1.out.2 H1.out.1).mono ?_
    rintro e w17 ⟨An, cn, rfl, hcn, hsn, hb⟩
    have HF17 := Aside0.mk (HF16.out.step hb)
    have HN := Aside0.mk (And.intro hcn hsn)
    clear HF16 hb hcn hsn
    go_wp2_with fail
    refine (alike_any An Ab cn cb l1 _ HN.out.2 HN.out.1 HF17.out.sb HC.out.2.1 H1.out.1).mono ?_
    rintro e w18 ⟨rfl, hb⟩
    have HF18 := Aside0.mk (HF17.out.step hb)
    clear HF17 hb HN
    go_wp2_with fail
    refine (to_any A2 c2 l2 _ HF18.out.e.r2 H2.out.2 H2.out.1).mono ?_
    rintro e w19 ⟨An, cn, rfl, hcn, hsn, hb⟩
    have HF19 := Aside0.mk (HF18.out.step hb)
    have HN := Aside0.mk (And.intro hcn hsn)
    clear HF18 hb hcn hsn
    go_wp2_with fail
    refine (alike_any An Ad cn cd l2 _ HN.out.2 HN.out.1 HF19.out.sd HC.out.2.2 H2.out.1).mono ?_
    rintro e w20 ⟨rfl, hb⟩
    have HF20 := Aside0.mk (HF19.out.step hb)
    clear HF19 hb HN
    go_wp2_with fail
    go_ret
    exact ⟨rfl, HF20.out.e.bel⟩
end Go.Proofs.YtoaiiffnhecmcaaDoor
