/-
  lexer.Tokenize at the one text "some vertex x': x' is 7": eight tokens, no error. Condition: strings.asciiSpace holds the table that the program's text lays.
-/
import Derived.Test.YtoaiiffnhecmcaaDoorTokP
import Derived.WalkMore
import Derived.Deep.LoopGhost
import Derived.BigRegion
import Derived.RegionTactic
import Derived.Deep.RegionLaw
import Derived.Deep.AppendLies
import Derived.OwnWalk
namespace Go.Proofs.YtoaiiffnhecmcaaDoor
open Go.RowKit Go.WideMaps Go.Maps

/-- What holds at the head of each round: n tokens are gathered; the block of 'at', the result's block and the map are what they are. -/
structure St (w : World) (B0 A R M n : Nat) (v : Value) (wr : World) : Prop where
  own : wr.ownsRow B0 26 5 v n (tcells n)
  atb : ∃ c, wr.heap[A]? = some (.cells #[.int .i64 1, .int .i64 c] 24 (0, 0))
  res : wr.heap[R]? = some (.cells #[.int .i64 0, .int .i64 0] 24 (0, 0))
  map : KwAt wr M
  below : Below w.heap.size w wr
  size : B0 ≤ wr.heap.size

theorem frozen_of_row {w : World} {b : Nat} {cs : Array Value} {t : TypeId} (h : w.heap[b]? = some (.cells cs t (0, 0))) (j : Nat) : w.frozen? ⟨b, j, none⟩ = false := by
  simp [World.frozen?, h]

theorem at_set {w : World} {A : Nat} {x y : Value} (h : w.heap[A]? = some (.cells #[x, y] 24 (0, 0))) (u v : Value) : ((w.setCell ⟨A, 0, none⟩ u).setCell ⟨A, 1, none⟩ v).heap[A]? = some (.cells #[u, v] 24 (0, 0)) := by
  simp [World.setCell, Array.getElem?_modify, h]
theorem at_grown (w : World) (A : Nat) (u v : Value) : w.grownBy ((w.setCell ⟨A, 0, none⟩ u).setCell ⟨A, 1, none⟩ v) (some A) := by
  refine ⟨rfl, rfl, rfl, by simp [World.setCell], fun k _ hk => ?_⟩
  have hne : k ≠ A := fun e => hk (by rw [e])
  rw [Below.heap_setCell _ _ _ _ (by simpa using hne), Below.heap_setCell _ _ _ _ (by simpa using hne)]

/-- The state goes on where only the block of 'at' has turned. -/
theorem St.step {w : World} {B0 A R M n : Nat} {v : Value} {wr w2 : World} (h : St w B0 A R M n v wr) (hg : wr.grownBy w2 (some A)) (hA : w.heap.size ≤ A) (hAB : A < B0) (hRA : R < A) (hMA : M < A) (hat : ∃ c, w2.heap[A]? = some (.cells #[.int .i64 1, .int .i64 c] 24 (0, 0))) : St w B0 A R M n v w2 := by
  have hsz := h.size
  refine ⟨h.own.kept hg ?_, hat, ?_, h.map.kept hg ?_, h.below.grown hg (by have := h.below.size; omega) (fun k hk => by cases hk; exact hA), by have := hg.size; omega⟩
  · rcases hv : v.ownBlock with _ | g
    · exact .inl rfl
    · refine .inr fun e => ?_
      have := (h.own.lt g hv).1
      have e' : g = A := by simpa using e
      omega
  · rw [hg.block R (by omega) (by simp; omega)]; exact h.res
  · simp; omega

theorem grown_below {w w2 : World} (hb : Below w.heap.size w w2) (row : Option Nat) : w.grownBy w2 row := ⟨hb.os, hb.tape, hb.output, hb.size, fun k hk _ => hb.block k hk⟩
theorem St.below' {w : World} {B0 A R M n : Nat} {v : Value} {wr w2 : World} (h : St w B0 A R M n v wr) (hb : Below wr.heap.size wr w2) (hAB : A < B0) : St w B0 A R M n v w2 := by
  have hsz := h.size
  have hg := grown_below hb none
  refine ⟨h.own.kept hg (by cases v.ownBlock <;> simp), ?_, ?_, h.map.kept hg (by simp), h.below.trans (hb.mono h.below.size), by have := hb.size; omega⟩
  · obtain ⟨c, hc⟩ := h.atb
    exact ⟨c, (hb.block A (by omega)).trans hc⟩
  · rw [hb.block R (Array.getElem?_eq_some_iff.1 h.res).1]; exact h.res
/-- A token is gathered. -/
theorem St.push {w : World} {B0 A R M n : Nat} {v v' : Value} {w3 w4 : World} {news : List Value} (h : St w B0 A R M n v w3) (hwB : w.heap.size ≤ B0) (hAB : A < B0) (hRB : R < B0) (hMB : M < B0) (hown : w4.ownsRow B0 26 5 v' (n + 1) (tcells n ++ news)) (hg : w3.grownBy w4 v.ownBlock) (hc : tcells (n + 1) = tcells n ++ news) : St w B0 A R M (n + 1) v' w4 := by
  have hsz := h.size
  have hne : ∀ k, k < B0 → some k ≠ v.ownBlock := fun k hk e => by have := (h.own.lt k e.symm).1; omega
  refine ⟨by rw [hc]; exact hown, ?_, ?_, h.map.kept hg (hne M hMB), h.below.grown hg h.below.size (fun k hk => by have := (h.own.lt k hk).1; omega), by have := hg.size; omega⟩
  · obtain ⟨c, hc⟩ := h.atb
    exact ⟨c, (hg.block A (by omega) (hne A hAB)).trans hc⟩
  · rw [hg.block R (by omega) (hne R hRB)]; exact h.res
theorem new_cells (w : World) (l : List Value) (t : TypeId) (N : Nat) (hN : N = w.heap.size) : ∀ (j : Nat) (u : Value), l[j]? = some u → (w.alloc (.cells l.toArray t)).cell? ((⟨N, 0, none⟩ : Addr).add j) = some u := by
  subst hN
  intro j u hu
  have hadd : (⟨w.heap.size, 0, none⟩ : Addr).add j = ⟨w.heap.size, j, none⟩ := by unfold Addr.add; split <;> simp_all
  rw [hadd, cell_of_row _ w.heap.size j l.toArray t (0, 0) (heap_alloc_new w _)]
  simpa using hu
theorem tc_one (k : Int) (s : ByteArray) (n l c : Int) : ∀ u ∈ tc k s n l c, u.oneCell' = true := by
  intro u hu
  simp only [tc, List.mem_cons, List.not_mem_nil, or_false] at hu
  rcases hu with rfl | rfl | rfl | rfl | rfl <;> rfl
theorem own_low {w : World} {base base' : Nat} {e : TypeId} {size n : Nat} {v : Value} {xs : List Value} (h : w.ownsRow base e size v n xs) (hb : base' ≤ base) : w.ownsRow base' e size v n xs := by
  obtain ⟨h1, h2⟩ := h
  refine ⟨h1, ?_⟩
  rcases h2 with h2 | ⟨g, cap, cur, hv, hg, r⟩
  · exact .inl h2
  · exact .inr ⟨g, cap, cur, hv, Nat.le_trans hb hg, r⟩
theorem info26 : (Tryd.prog.info? 26).map (fun i => (i.zero, i.size, i.bytes)) = some (some (.agg #[.int .i64 0, .string ⟨#[]⟩, .int .i64 0, .int .i64 0, .int .i64 0]), 5, 48) := by kernel_rfl

theorem cells4 (s : ByteArray) (hs : s = srcA) : tcells 4 = tcells 3 ++ tc 4 (s.extract 14 15) 0 1 15 := by
  subst hs
  rfl
theorem byte14 (s : ByteArray) (hs : s = srcA) (h : 14 < s.size) : s[14] = 58 := by
  subst hs
  rfl
set_option maxHeartbeats 1000000 in
set_option maxRecDepth 100000 in
theorem tokenize_src (s : ByteArray) (w : World) (hs : Hid (s = srcA)) (hsz : s.size = 23) (hk : ∀ o, Calls Tryd.prog 12 #[] (w.alloc o) fun e w' => e = .returned (.map (some (w.heap.size + 1))) ∧ KwAt w' (w.heap.size + 1) ∧ Below (w.heap.size + 1) (w.alloc o) w') :
    Calls Tryd.prog 11 #[.string s] w fun e w' => ∃ v, e = .returned (.tuple #[v, .agg #[.int .i64 0, .int .i64 0], .int .i64 0]) ∧ w'.ownsRow w.heap.size 26 5 v 8 (tcells 8) ∧ Below w.heap.size w w' := by
  have HK := Lib.hid hk
  clear hk
  go_enter Tryd.func11, Tryd.ntmps11
  go_wp2_with fail
  go_step3
  go_wp2_with fail
  refine (HK.out _).mono ?_
  rintro e w1 ⟨rfl, hown, hb⟩
  have HO := Lib.hid hown
  have HB := Lib.hid hb
  clear hown hb HK
  go_wp2_with fail
  go_step3
  go_wp2_with fail
  have HS : Hid (w.heap.size ≤ w1.heap.size ∧ w.heap.size < w1.heap.size ∧ w.heap.size + 1 < w1.heap.size) := Lib.hid (by have := HO.out.lt; omega)
  go_loopg [5, 8, 9] 23 (fun g v l i wr => ∃ p n : Nat, Hid ((p, n) ∈ tpos) ∧ g = 23 - p ∧ i = .int .i64 p ∧ l = .int .i64 0 ∧ St w (w1.heap.size + 1) w1.heap.size w.heap.size (w.heap.size + 1) n v wr)
  case atStart =>
    refine ⟨0, 0, Lib.hid (by decide), rfl, rfl, rfl, ?_⟩
    have hsz1 := HO.out.lt
    refine ⟨World.ownsRow_nil _ _ _ _, ⟨1, heap_alloc_new w1 _⟩, ?_, HO.out.alloc _, ?_, by simp⟩
    · rw [heap_alloc_old, HB.out.block _ (by omega)]
      · exact heap_alloc_new w _
      · omega
    · exact (((Below.refl _ _).alloc (Nat.le_refl _) _).trans (HB.out.mono (by omega))).alloc (by omega) _
  case round =>
    obtain ⟨p, n, hp, rfl, rfl, rfl, hst⟩ := hrel
    obtain ⟨c, hA⟩ := hst.atb
    have hc0 : wr.cell? ⟨w1.heap.size, 0, none⟩ = some (.int .i64 1) := by rw [cell_of_row wr _ 0 _ 24 (0, 0) hA]; rfl
    have hc1 : wr.cell? ⟨w1.heap.size, 1, none⟩ = some (.int .i64 c) := by rw [cell_of_row wr _ 1 _ 24 (0, 0) hA]; rfl
    have hf0 : wr.frozen? ⟨w1.heap.size, 0, none⟩ = false := frozen_of_row hA 0
    have hf1 : wr.frozen? ⟨w1.heap.size, 1, none⟩ = false := frozen_of_row hA 1
    have HA := Lib.hid hA
    clear hA
    have hcs := tpos_cases p n hp.out
    rw [← hs.out] at hcs
    rcases hcs with hbl | ⟨q, k, nv, hwd⟩ | ⟨rfl, rfl⟩ | ⟨rfl, rfl⟩
    · have hlt := hbl.lt
      have hi : ((p : Int) == 23) = false := by simp; omega
      have hx : ∀ h : p < s.size, s[p] = 32 := hbl.byte
      have HN := Lib.hid hbl.next
      have HC : Hid (∀ W, St w (w1.heap.size + 1) w1.heap.size w.heap.size (w.heap.size + 1) n u5 W → Calls Tryd.prog 13 #[.int .u8 32] W fun e w' => e = .returned (.bool true) ∧ St w (w1.heap.size + 1) w1.heap.size w.heap.size (w.heap.size + 1) n u5 w') :=
        Lib.hid fun W hW => (blank_any 32 W).mono fun e w' h => ⟨h.1, h.2 ▸ hW⟩
      clear hbl hp
      go_wp2_with fail
      refine (HC.out _ ?st).mono ?_
      case st => exact hst.step (at_grown _ _ _ _) HS.out.1 (by omega) HS.out.2.1 HS.out.2.2 ⟨_, at_set HA.out _ _⟩
      rintro e w2 ⟨rfl, hst2⟩
      clear hst hc0 hc1 hf0 hf1 HA
      go_wp2_with fail
      go_roundg (23 - (p + 1))
      case measure => omega
      case rel => exact ⟨p + 1, n, HN, rfl, by go_num, rfl, hst2⟩
    · have hq1 := hwd.q1
      have hpq := hwd.lt
      have hn8 := hwd.n8
      have hi : ((p : Int) == 23) = false := by simp; omega
      have hps : p < s.size := by omega
      obtain ⟨x, hx⟩ : ∃ x : UInt8, s[p] = x := ⟨_, rfl⟩
      have b13 := hwd.blank hps
      have b14 := hwd.mark hps
      have b15 := hwd.runs hps
      rw [hx] at b13 b14 b15
      have HX : Hid (∀ W, St w (w1.heap.size + 1) w1.heap.size w.heap.size (w.heap.size + 1) n u5 W → W.cell? ⟨w1.heap.size, 0, none⟩ = some (.int .i64 1) → W.cell? ⟨w1.heap.size, 1, none⟩ = some (.int .i64 ((p : Int) + 1)) → Calls Tryd.prog 13 #[.int .u8 (x.toNat : Int)] W fun e w' => e = .returned (.bool false) ∧ St w (w1.heap.size + 1) w1.heap.size w.heap.size (w.heap.size + 1) n u5 w' ∧ w'.cell? ⟨w1.heap.size, 0, none⟩ = some (.int .i64 1) ∧ w'.cell? ⟨w1.heap.size, 1, none⟩ = some (.int .i64 ((p : Int) + 1))) :=
        Lib.hid fun W hW h0 h1 => (b13 W).mono fun e w' h => ⟨h.1, h.2 ▸ hW, h.2 ▸ h0, h.2 ▸ h1⟩
      have H14 := Lib.hid b14
      have H15 := Lib.hid b15
      have H16 := Lib.hid hwd.cut
      have H17 := Lib.hid hwd.run
      have HT := Lib.hid hwd.cells
      have HN := Lib.hid hwd.next
      clear hwd hp b13 b14 b15
      go_wp2_with fail
      refine (HX.out _ ?st ?c0 ?c1).mono ?_
      case st => exact hst.step (at_grown _ _ _ _) HS.out.1 (by omega) HS.out.2.1 HS.out.2.2 ⟨_, at_set HA.out _ _⟩
      case c0 => rw [cell_of_row _ _ 0 _ 24 (0, 0) (at_set HA.out _ _)]; rfl
      case c1 => rw [cell_of_row _ _ 1 _ 24 (0, 0) (at_set HA.out _ _)]; rfl
      clear hst hc0 hc1 hf0 hf1 HA
      rintro e w2 ⟨rfl, hst, hc0, hc1⟩
      clear HX
      go_wp2_with fail
      refine (H14.out _).mono ?_
      rintro e w' ⟨rfl, hw'⟩; subst w'
      go_wp2_with fail
      refine (H15.out _).mono ?_
      rintro e w' ⟨rfl, hw'⟩; subst w'
      go_wp2_with fail
      refine (H16.out _).mono ?_
      rintro e w' ⟨rfl, hw'⟩; subst w'
      clear H14 H15 H16
      go_wp2_with fail
      refine (H17.out _ _ hst.map).mono ?_
      rintro e w3 ⟨rfl, hb3⟩
      have hst3 : St w (w1.heap.size + 1) w1.heap.size w.heap.size (w.heap.size + 1) n u5 w3 := hst.below' hb3 (by omega)
      have hA2 : w1.heap.size < w2.heap.size := by have := hst.size; omega
      have hd0 : w3.cell? ⟨w1.heap.size, 0, none⟩ = some (.int .i64 1) := (hb3.cell (p := ⟨w1.heap.size, 0, none⟩) hA2).trans hc0
      have hd1 : w3.cell? ⟨w1.heap.size, 1, none⟩ = some (.int .i64 ((p : Int) + 1)) := (hb3.cell (p := ⟨w1.heap.size, 1, none⟩) hA2).trans hc1
      have hA3 : w1.heap.size < w3.heap.size := by have := hst3.size; omega
      clear hst hc0 hc1 hb3 hA2 H17
      obtain ⟨i0, hi0, hz0, hz1, hz2⟩ := info_parts info26
      have HI := Lib.hid hi0
      have HZ := Lib.hid (And.intro hz0 (And.intro hz1 hz2))
      clear hi0 hz0 hz1 hz2
      go_wp2_with (at_builtin; go_must (refine wpList_append_own _ rfl _ _ 22 rfl (w1.heap.size + 1) 26 i0 (.agg #[.int .i64 0, .string ⟨#[]⟩, .int .i64 0, .int .i64 0, .int .i64 0]) 5 48 Tryd.underlying22 HI.out HZ.out.1 HZ.out.2.1 HZ.out.2.2 rfl (by decide) _ _ _ rfl ((hst3.own.alloc _).alloc _) ⟨w3.heap.size + 1, 0, none⟩ 1 1 (tc k (s.extract p (p + q)) nv 1 (p + 1)) rfl rfl ?_ ?_ ?_ ?_ ?_ ?_))
      · exact new_cells (w3.alloc _) (tc k (s.extract p (p + q)) nv 1 (p + 1)) 26 _ (by simp)
      · exact tc_one _ _ _ _ _
      · unfold maxLen; omega
      · omega
      · have := hst3.size; simp; omega
      · intro v' w4 hown4 hgrow _
        have hst4 : St w (w1.heap.size + 1) w1.heap.size w.heap.size (w.heap.size + 1) (n + 1) v' w4 :=
          St.push (hst3.below' (((Below.refl _ _).alloc (Nat.le_refl _) _).alloc (by simp) _) (by omega)) (by have := HS.out; omega) (by omega) (by have := HS.out; omega) (by have := HS.out; omega) hown4 hgrow HT.out
        clear hown4 hgrow hst3 hd0 hd1 hA3 HI HZ HT
        go_wp2_with fail
        go_roundg (23 - (p + q))
        case measure => omega
        case rel => exact ⟨p + q, n + 1, HN, rfl, by go_num, rfl, hst4⟩
    · clear hp
      have hps : 14 < s.size := by omega
      obtain ⟨x, hx⟩ : ∃ x : UInt8, s[14] = x := ⟨_, rfl⟩
      have hx58 : x = 58 := by rw [← hx]; exact byte14 s hs.out hps
      have b13 : ∀ W, Calls Tryd.prog 13 #[.int .u8 (x.toNat : Int)] W fun e w' => e = .returned (.bool false) ∧ w' = W := fun W => by rw [hx58]; exact blank_any 58 W
      have b14 : ∀ W, Calls Tryd.prog 14 #[.string ⟨#[61, 40, 41, 44, 58, 59]⟩, .int .u8 (x.toNat : Int)] W fun e w' => e = .returned (.int .i64 4) ∧ w' = W := fun W => by rw [hx58]; exact Tryd.strings_IndexByte ⟨#[61, 40, 41, 44, 58, 59]⟩ 58 W
      clear hx58
      have HX : Hid (∀ W, St w (w1.heap.size + 1) w1.heap.size w.heap.size (w.heap.size + 1) 3 u5 W → W.cell? ⟨w1.heap.size, 0, none⟩ = some (.int .i64 1) → W.cell? ⟨w1.heap.size, 1, none⟩ = some (.int .i64 15) → Calls Tryd.prog 13 #[.int .u8 (x.toNat : Int)] W fun e w' => e = .returned (.bool false) ∧ St w (w1.heap.size + 1) w1.heap.size w.heap.size (w.heap.size + 1) 3 u5 w' ∧ w'.cell? ⟨w1.heap.size, 0, none⟩ = some (.int .i64 1) ∧ w'.cell? ⟨w1.heap.size, 1, none⟩ = some (.int .i64 15)) :=
        Lib.hid fun W hW h0 h1 => (b13 W).mono fun e w' h => ⟨h.1, h.2 ▸ hW, h.2 ▸ h0, h.2 ▸ h1⟩
      have H14 := Lib.hid b14
      clear b13 b14
      go_wp2_with fail
      refine (HX.out _ ?st ?c0 ?c1).mono ?_
      case st => exact hst.step (at_grown _ _ _ _) HS.out.1 (by omega) HS.out.2.1 HS.out.2.2 ⟨_, at_set HA.out _ _⟩
      case c0 => rw [cell_of_row _ _ 0 _ 24 (0, 0) (at_set HA.out _ _)]; rfl
      case c1 => rw [cell_of_row _ _ 1 _ 24 (0, 0) (at_set HA.out _ _)]; rfl
      clear hst hc0 hc1 hf0 hf1 HA
      rintro e w2 ⟨rfl, hst, hc0, hc1⟩
      clear HX
      go_wp2_with fail
      refine (H14.out _).mono ?_
      rintro e w' ⟨rfl, hw'⟩; subst w'
      clear H14
      obtain ⟨i0, hi0, hz0, hz1, hz2⟩ := info_parts info26
      have HI := Lib.hid hi0
      have HZ := Lib.hid (And.intro hz0 (And.intro hz1 hz2))
      clear hi0 hz0 hz1 hz2
      go_wp2_with fail
      have hw15 : IntKind.i64.wrap 15 = 15 := by decide
      go_region_law (refine step_append_lies _ rfl (.tmp 60) (.tmp 68) 22 rfl (w1.heap.size + 1) 26 i0 (.agg #[.int .i64 0, .string ⟨#[]⟩, .int .i64 0, .int .i64 0, .int .i64 0]) 5 48 Tryd.underlying22 HI.out HZ.out.1 HZ.out.2.1 HZ.out.2.2 rfl (by decide) u5 3 (tcells 3) (by simp [Act.eval]) (by exact (hst.own.alloc _).drew) ⟨w2.heap.size, 0, none⟩ 1 1 (tc 4 (s.extract 14 15) 0 1 15) (by simp [Act.eval]) rfl (new_cells w2 (tc 4 (s.extract 14 15) 0 1 15) 26 _ rfl) (tc_one _ _ _ _ _) (by decide) (by unfold maxLen; omega) (by omega) (by have := hst.size; simp; omega) (w2.heap.size + 1) (by simp) ?_; intro g cap w4 hown4 hgrow _ _)
      have hst4 : St w (w1.heap.size + 1) w1.heap.size w.heap.size (w.heap.size + 1) 4 (.slice (some ⟨g, 0, none⟩) 4 cap) w4 :=
        St.push (hst.below' (((Below.refl _ _).alloc (Nat.le_refl _) _).drew) (by omega)) (by have := HS.out; omega) (by omega) (by have := HS.out; omega) (by have := HS.out; omega) hown4 hgrow (cells4 s hs.out)
      clear hown4 hgrow hst hc0 hc1 HI HZ
      go_wp2_with fail
      go_roundg (23 - 15)
      case measure => omega
      case rel => exact ⟨15, 4, Lib.hid (by decide), rfl, rfl, rfl, hst4⟩
    · clear hp
      have hst3 := Lib.hid (hst.step (at_grown _ _ (.int .i64 1) (.int .i64 24)) HS.out.1 (by omega) HS.out.2.1 HS.out.2.2 ⟨_, at_set HA.out _ _⟩)
      obtain ⟨i0, hi0, hz0, hz1, hz2⟩ := info_parts info26
      have HI := Lib.hid hi0
      have HZ := Lib.hid (And.intro hz0 (And.intro hz1 hz2))
      clear hi0 hz0 hz1 hz2
      go_wp2_with (at_builtin; go_must (refine wpList_append_own _ rfl _ _ 22 rfl (w1.heap.size + 1) 26 i0 (.agg #[.int .i64 0, .string ⟨#[]⟩, .int .i64 0, .int .i64 0, .int .i64 0]) 5 48 Tryd.underlying22 HI.out HZ.out.1 HZ.out.2.1 HZ.out.2.2 rfl (by decide) _ _ _ rfl (hst3.out.own.alloc _) ⟨wr.heap.size, 0, none⟩ 1 1 (tc 0 ⟨#[]⟩ 0 1 24) rfl rfl ?_ ?_ ?_ ?_ ?_ ?_))
      · exact new_cells _ (tc 0 ⟨#[]⟩ 0 1 24) 26 _ (by simp)
      · exact tc_one _ _ _ _ _
      · unfold maxLen; omega
      · omega
      · have := hst.size; simp; omega
      · intro v' w4 hown4 hgrow _
        have hst4 : St w (w1.heap.size + 1) w1.heap.size w.heap.size (w.heap.size + 1) 8 v' w4 :=
          St.push (hst3.out.below' ((Below.refl _ _).alloc (Nat.le_refl _) _) (by omega)) (by have := HS.out; omega) (by omega) (by have := HS.out; omega) (by have := HS.out; omega) hown4 hgrow rfl
        have hr0 : w4.cell? ⟨w.heap.size, 0, none⟩ = some (.int .i64 0) := by rw [cell_of_row w4 _ 0 _ 24 (0, 0) hst4.res]; rfl
        have hr1 : w4.cell? ⟨w.heap.size, 1, none⟩ = some (.int .i64 0) := by rw [cell_of_row w4 _ 1 _ 24 (0, 0) hst4.res]; rfl
        have hg0 : w4.frozen? ⟨w.heap.size, 0, none⟩ = false := frozen_of_row hst4.res 0
        have hg1 : w4.frozen? ⟨w.heap.size, 1, none⟩ = false := frozen_of_row hst4.res 1
        have H4 := Lib.hid hst4
        clear hown4 hgrow hst3 hst hst4 HA hc0 hc1 hf0 hf1 HI HZ
        go_wp2_with fail
        rw [Exit.noGoto_ret]
        refine bodyPost_ret (v := .tuple #[v', .agg #[.int .i64 0, .int .i64 0], .int .i64 0]) (by simp [results, Tryd.results11, go_sem, hr0, hr1]) rfl ⟨v', rfl, ?_, ?_⟩
        · exact own_low (ownsRow_setCell_below (ownsRow_setCell_below H4.out.own (by have := HS.out; show w.heap.size < _; omega) _) (by have := HS.out; show w.heap.size < _; omega) _) (by have := HS.out; omega)
        · exact (H4.out.below.setCell (Nat.le_refl _) _).setCell (Nat.le_refl _) _
end Go.Proofs.YtoaiiffnhecmcaaDoor
