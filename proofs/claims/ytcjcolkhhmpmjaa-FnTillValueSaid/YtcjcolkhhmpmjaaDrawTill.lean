/- Contract of the generator of tills. -/
import Derived.Test.YtcjcolkhhmpmjaaDrw
import Derived.Deep.RegionHeld3
namespace Go.Proofs.Ytcjcolkhhmpmjaa
open Go.RowKit

theorem infoCoinD : (Try.prog.info? 40).map (fun i => (i.zero, i.size, i.bytes)) = some (some (.agg #[.int .i64 0, .int .i64 0]), 2, 16) := by kernel_rfl

/-- The values of coins that are drawn from. -/
def kindsAt : Nat → List Int
  | 0 => [1, 2, 5, 10, 20]
  | 1 => [1, 3, 4]
  | 2 => [5, 7]
  | 3 => [2, 6, 9]
  | 4 => [1]
  | _ => [50, 100, 200]
def ints (l : List Int) : Array Value := (l.map (Value.int .i64)).toArray
def K6 (w : World) : World := ((((((w.alloc (.cells (ints (kindsAt 0)) 3)).alloc (.cells (ints (kindsAt 1)) 3)).alloc (.cells (ints (kindsAt 2)) 3)).alloc (.cells (ints (kindsAt 3)) 3)).alloc (.cells (ints (kindsAt 4)) 3)).alloc (.cells (ints (kindsAt 5)) 3))
theorem K6_size (w : World) : (K6 w).heap.size = w.heap.size + 6 := by simp [K6]
theorem K6_at (w : World) : ∀ m : Nat, m < 6 → Blk (K6 w) (w.heap.size + m) 3 (ints (kindsAt m))
  | 0, _ => by have := ((((((Blk.new w 3 (ints (kindsAt 0))).alloc (.cells (ints (kindsAt 1)) 3)).alloc (.cells (ints (kindsAt 2)) 3)).alloc (.cells (ints (kindsAt 3)) 3)).alloc (.cells (ints (kindsAt 4)) 3)).alloc (.cells (ints (kindsAt 5)) 3)); exact this
  | 1, _ => by have := (((((Blk.new (w.alloc (.cells (ints (kindsAt 0)) 3)) 3 (ints (kindsAt 1))).alloc (.cells (ints (kindsAt 2)) 3)).alloc (.cells (ints (kindsAt 3)) 3)).alloc (.cells (ints (kindsAt 4)) 3)).alloc (.cells (ints (kindsAt 5)) 3)); simp only [World.size_alloc] at this; exact this
  | 2, _ => by have := ((((Blk.new ((w.alloc (.cells (ints (kindsAt 0)) 3)).alloc (.cells (ints (kindsAt 1)) 3)) 3 (ints (kindsAt 2))).alloc (.cells (ints (kindsAt 3)) 3)).alloc (.cells (ints (kindsAt 4)) 3)).alloc (.cells (ints (kindsAt 5)) 3)); simp only [World.size_alloc] at this; exact this
  | 3, _ => by have := (((Blk.new (((w.alloc (.cells (ints (kindsAt 0)) 3)).alloc (.cells (ints (kindsAt 1)) 3)).alloc (.cells (ints (kindsAt 2)) 3)) 3 (ints (kindsAt 3))).alloc (.cells (ints (kindsAt 4)) 3)).alloc (.cells (ints (kindsAt 5)) 3)); simp only [World.size_alloc] at this; exact this
  | 4, _ => by have := ((Blk.new ((((w.alloc (.cells (ints (kindsAt 0)) 3)).alloc (.cells (ints (kindsAt 1)) 3)).alloc (.cells (ints (kindsAt 2)) 3)).alloc (.cells (ints (kindsAt 3)) 3)) 3 (ints (kindsAt 4))).alloc (.cells (ints (kindsAt 5)) 3)); simp only [World.size_alloc] at this; exact this
  | 5, _ => by have := (Blk.new (((((w.alloc (.cells (ints (kindsAt 0)) 3)).alloc (.cells (ints (kindsAt 1)) 3)).alloc (.cells (ints (kindsAt 2)) 3)).alloc (.cells (ints (kindsAt 3)) 3)).alloc (.cells (ints (kindsAt 4)) 3)) 3 (ints (kindsAt 5))); simp only [World.size_alloc] at this; exact this
  | m + 6, h => absurd h (by omega)
/-- The slices of the kinds. -/
def outer (g : Nat) : Array Value := #[.slice (some ⟨g, 0, none⟩) 5 5, .slice (some ⟨g + 1, 0, none⟩) 3 3, .slice (some ⟨g + 2, 0, none⟩) 2 2, .slice (some ⟨g + 3, 0, none⟩) 3 3, .slice (some ⟨g + 4, 0, none⟩) 1 1, .slice (some ⟨g + 5, 0, none⟩) 3 3]
theorem outer_at (g : Nat) : ∀ m : Nat, m < 6 → (outer g)[m]? = some (.slice (some ⟨g + m, 0, none⟩) (kindsAt m).length (kindsAt m).length)
  | 0, _ => rfl
  | 1, _ => rfl
  | 2, _ => rfl
  | 3, _ => rfl
  | 4, _ => rfl
  | 5, _ => rfl
  | m + 6, h => absurd h (by omega)
theorem kindsAt_len : ∀ m : Nat, (kindsAt m).length ≤ 5 ∧ 1 ≤ (kindsAt m).length
  | 0 => by simp [kindsAt]
  | 1 => by simp [kindsAt]
  | 2 => by simp [kindsAt]
  | 3 => by simp [kindsAt]
  | 4 => by simp [kindsAt]
  | m + 5 => by simp [kindsAt]

/-- Some till. -/
def TillPost (w : World) (B R M : Nat) (e : Ending) (w' : World) : Prop :=
  ∃ (l : List (Int × Int)) (v : Value), e = .returned v ∧ l.length ≤ 6 ∧ Own enc2 2 40 w' w.heap.size v l ∧ Rdr w' B R M ∧ w.grownBy w' (some R)
def AnyTillRel (w2 : World) (B R N n : Nat) (v i : Value) (wr : World) : Prop :=
  ∃ (k : Nat) (o : List (Int × Int)), k ≤ n ∧ i = .int .i64 k ∧ o.length = k ∧ Own enc2 2 40 wr w2.heap.size v o ∧ Rdr wr B R (N + 1 + k) ∧ w2.grownBy wr (some R)

set_option maxHeartbeats 3200000 in
set_option maxRecDepth 100000 in
theorem anyTill_any (w : World) (B R N : Nat) (h : Rdr w B R N) (hN : N ≤ 900000) :
    Calls Try.prog 41 #[.pointer (some ⟨R, 0, none⟩)] w (TillPost w B R (N + 20)) := by
  have hR := h.lt
  have hRB := hR.1
  have hRw := hR.2
  clear hR
  have G0 : w.grownBy (K6 w) (some R) := only_alloc (only_alloc (only_alloc (only_alloc (only_alloc (only_alloc only_refl _) _) _) _) _) _
  have h6 : Rdr (K6 w) B R N := (((((h.alloc _).alloc _).alloc _).alloc _).alloc _).alloc _
  have h7 := h6.alloc (.cells (outer w.heap.size) 35)
  have G7 := only_alloc G0 (.cells (outer w.heap.size) 35)
  have KO := Blk.new (K6 w) 35 (outer w.heap.size)
  rw [K6_size] at KO
  have KI := fun m hm => (K6_at w m hm).alloc (.cells (outer w.heap.size) 35)
  have HKI := hid KI
  clear KI h6 G0 h
  go_enter Try.func41, Try.ntmps41
  go_wp2_with fail
  refine (pick_any _ _ _ _ _ h7 (by omega)).mono ?_
  rintro e w1 ⟨m, rfl, m1, m2, _, h1, g1⟩
  have m3 := m2 (by omega)
  have G1 := only_trans G7 g1
  have KO1 := KO.grown g1 (by simp; omega)
  have hko := KO1.cell m.toNat
  rw [outer_at _ m.toNat (by omega)] at hko
  have KI1 := (HKI.out m.toNat (by omega)).grown g1 (by simp; omega)
  have hvl := kindsAt_len m.toNat
  obtain ⟨vs, hvs⟩ : ∃ x, kindsAt m.toNat = x := ⟨_, rfl⟩
  obtain ⟨gv, hgv⟩ : ∃ x, w.heap.size + m.toNat = x := ⟨_, rfl⟩
  rw [hvs] at hko hvl KI1
  rw [hgv] at hko KI1
  have hgw : gv < w1.heap.size := KI1.lt
  have hgR : gv ≠ R := by omega
  obtain ⟨vl1, vl2⟩ := hvl
  have S1 : ∀ k, k < vs.length → w1.cell? ⟨gv, k, none⟩ = some (.int .i64 (g0 vs k)) := fun k hk => by
    rw [KI1.cell k]; simp [ints, g0, List.getD, hk]
  have HS := hid S1
  have O1 := Own.lit0 enc2 2 40 w1 w1.heap.size rfl (Nat.le_refl _)
  have H2 := h1.alloc (.cells #[] 40)
  have G2 := only_alloc (only_refl (w := w1) (row := some R)) (.cells #[] 40)
  have HG1 := hid G1
  have hRw1 : R < w1.heap.size := by omega
  clear m2 G7 KO g1 KO1 KI1 hvs hgv S1 G1 h7
  go_wp2_with fail
  go_loopw [5, 6] (fun v i wr => AnyTillRel w1 B R N vs.length v i wr) (fun _ i _ => vs.length - (intOf i).toNat)
  case atStart => exact ⟨0, [], Nat.zero_le _, rfl, rfl, O1, H2.more (by omega), G2⟩
  case round =>
    clear O1 H2 G2 hko h1
    obtain ⟨k, o, hk, rfl, hol, ho, hr, hg⟩ := hrel
    have HG := hid hg
    have HOL := hid hol
    have hol6 : o.length ≤ 6 := by omega
    have hzr := hg.size
    by_cases hlt : k < vs.length
    · have c0 : wr.cell? ⟨gv, k, none⟩ = some (.int .i64 (g0 vs k)) := by rw [(gcell hg).1 gv k (by omega) hgR]; exact HS.out k hlt
      have hkl : (k : Int) < (vs.length : Int) := by omega
      have hgw' : gv < wr.heap.size := by omega
      clear hg hol
      go_wp2_with fail
      go_region_held3 (fun x => x.cell? ⟨gv, k, none⟩ = some (.int .i64 (g0 vs k))) (((repeat' apply And.intro) <;> first | assumption | (simp [go_sem, *]; done))) (first
        | (go_at_call 43; refine (one_drew [3, 5, 0, 20, 1, 10] _ _ _ _ _ _ _ hr (by omega) (by simp) rfl (by simp) rfl (by simp)).mono ?_; rintro e w3 ⟨m', rfl, hm', h3, g3⟩; clear hm'; have c3 : w3.cell? ⟨gv, k, none⟩ = some (.int .i64 (g0 vs k)) := ((gcell g3).1 gv k hgw' hgR).trans c0; have O3 := ho.grown g3 (ho.off hRw1); have G3 := hid (only_trans HG.out g3); have z3 := g3.size; have hgw3 : gv < w3.heap.size := (by omega); clear g3)
        | (refine step_push0 len2 one2 (by rfl) _ _ _ (by rfl) Try.underlying25 infoCoinD rfl (by omega) (by omega) (by rfl) O3 ⟨g0 vs k, m'⟩ (by rfl) (by rfl) (by rfl) (by omega) (by omega) ?_; intro v4 w4 ho4 hg4; have c4 : w4.cell? ⟨gv, k, none⟩ = some (.int .i64 (g0 vs k)) := (World.cell?_of_block (hg4.block gv (by simp; omega) (fun he => by have := (O3.lt gv he.symm).1; omega))).trans ((World.cell?_alloc_lt _ _ _ (by simp; omega)).trans c3); have h4 := (h3.alloc (.cells #[.int .i64 (g0 vs k), .int .i64 m'] 40)).row O3 hRw1 (by omega) hg4; have G4 := hid (only_row (only_alloc G3.out (.cells #[.int .i64 (g0 vs k), .int .i64 m'] 40)) O3 (Nat.le_refl _) hg4); clear hg4))
      go_wp2
      go_roundw
      case rel => exact ⟨k + 1, o ++ [(g0 vs k, m')], by omega, by go_num, by simp; exact HOL.out, ho4, h4.more (by omega), G4.out⟩
      case measure => simp [intOf]; omega
    · have hkl : k = vs.length := by omega
      subst hkl
      clear hg hol
      go_wp2_with fail
      refine (pick_any _ _ _ _ _ hr (by omega)).mono ?_
      rintro e w3 ⟨m', rfl, m1', _, _, h3, g3⟩
      have O3 := ho.grown g3 (ho.off hRw1)
      have G3 := hid (only_trans HG1.out (only_trans HG.out g3))
      have z3 := g3.size
      clear g3 ho hr
      by_cases hz : m' = 0
      · subst hz
        clear m1'
        go_wp2_with fail
        refine (one_any [500, 501, 1] _ _ _ _ _ _ _ h3 (by omega) rfl rfl (by simp) rfl (by simp)).mono ?_
        rintro e w4 ⟨a, rfl, _, h4, g4⟩
        have O4 := O3.grown g4 (O3.off hRw1)
        have G4 := only_trans G3.out g4
        have z4 := g4.size
        clear g4 O3 h3
        go_wp2_with fail
        refine (one_any [1, 21, -1] _ _ _ _ _ _ _ h4 (by omega) rfl rfl (by simp) rfl (by simp)).mono ?_
        rintro e w5 ⟨q, rfl, _, h5, g5⟩
        have O5 := O4.grown g5 (O4.off hRw1)
        have G5 := hid (only_trans G4 g5)
        have z5 := g5.size
        clear g5 O4 h4 G4
        go_wp2_with (at_builtin; refine wpList_push len2 one2 rfl (.tmp 42) (.tmp 50) _ rfl Try.underlying25 infoCoinD rfl (by omega) (by omega) rfl (O5) ⟨a, q⟩ (by simp) rfl rfl (by (try simp) <;> omega) (by (try simp) <;> omega) ?_)
        intro v6 w6 ho6 hg6 _
        have h6 := hid ((h5.alloc (.cells #[.int .i64 a, .int .i64 q] 40)).row O5 hRw1 (by omega) hg6)
        have G6 := hid (only_row (only_alloc G5.out (.cells #[.int .i64 a, .int .i64 q] 40)) O5 HG1.out.size hg6)
        clear hg6 O5 h5
        go_wp2
        go_ret
        exact ⟨o ++ [(a, q)], v6, rfl, by have := HOL.out; simp; omega, ho6.less HG1.out.size, h6.out.more (by omega), G6.out⟩
      · go_wp2
        go_ret
        exact ⟨o, _, rfl, by omega, O3.less HG1.out.size, h3.more (by omega), G3.out⟩

end Go.Proofs.Ytcjcolkhhmpmjaa
