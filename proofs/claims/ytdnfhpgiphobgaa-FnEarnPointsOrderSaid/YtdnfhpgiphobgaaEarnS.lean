/- Contract: earning points, as the reference does it. -/
import Derived.Test.YtdnfhpgiphobgaaEarnW
import Derived.RegionTactic
namespace Go.Proofs.Ytdnfhpgiphobgaa
open Go.RowKit

/-- The first loop's round: out holds the lots before the day, next the day's points. -/
def EarnRel1 (w : World) (N : Nat) (l : List (Int × Int)) (p u : Int) (i v : Value) (wr : World) : Prop :=
  ∃ (k : Nat) (o : List (Int × Int)), k ≤ l.length ∧ i = .int .i64 k ∧ o = lower u (l.take k) ∧ Own enc2 2 33 wr w.heap.size v o ∧ v.ownBlock ≠ some N ∧ Below w.heap.size w wr ∧ Blk wr N 33 #[.int .i64 u, .int .i64 (p + eqSum u (l.take k))]
/-- The second loop's round: the lots behind the day are added. -/
def EarnRel2 (w : World) (l : List (Int × Int)) (p u : Int) (i v : Value) (wr : World) : Prop :=
  ∃ (k : Nat) (o : List (Int × Int)), k ≤ l.length ∧ i = .int .i64 k ∧ o = lower u l ++ (u, p + eqSum u l) :: upper u (l.take k) ∧ Own enc2 2 33 wr w.heap.size v o ∧ Below w.heap.size w wr

theorem lower_len {u : Int} {l : List (Int × Int)} : (lower u l).length ≤ l.length := List.length_filter_le ..
theorem upper_len {u : Int} {l : List (Int × Int)} : (upper u l).length ≤ l.length := List.length_filter_le ..

set_option maxHeartbeats 3200000 in
theorem specEarnPoints_any (l : List (Int × Int)) (A : Option Addr) (cap : Nat) (p u : Int) (w : World) (h : Sl enc2 2 w w.heap.size A l) (hl : l.length ≤ 1048576) :
    Calls Try.prog 13 #[.slice A l.length cap, .int .i64 p, .int .i64 u] w (EarnPost w l p u) := by
  have D0 : Below w.heap.size w ((w.alloc (.cells #[] 33)).alloc (.cells #[.int .i64 u, .int .i64 p] 33)) := ((Below.refl _ _).alloc (Nat.le_refl _) _).alloc (by simp) _
  have h0 : Sl enc2 2 ((w.alloc (.cells #[] 33)).alloc (.cells #[.int .i64 u, .int .i64 p] 33)) ((w.alloc (.cells #[] 33)).alloc (.cells #[.int .i64 u, .int .i64 p] 33)).heap.size A l := (h.below D0 (Nat.le_refl _)).more (by simp; omega)
  have HD0 := hid D0
  clear D0
  by_cases hv : vLots l = true
  · by_cases hp : withinB p 1 50000 = true
    · by_cases hu : withinB u 0 999 = true
      · have HV := hid (vLots_iff.1 hv)
        have hl8 := HV.out.2.2
        obtain ⟨p1, p2⟩ := withinB_true.1 hp
        go_enter Try.func13, Try.ntmps13
        go_wp2_with (first | (go_at_call 31; refine (svalidLots_any l A cap _ h0 (by omega)).mono ?_; rintro e w1 ⟨rfl, b1⟩) | (go_at_call 32; refine (inRange_any _ _ _ _).mono ?_; rintro e w' ⟨rfl, rfl⟩))
        have z1 : w.heap.size + 1 < w1.heap.size := by have := b1.size; simp at this; omega
        have O1 := (((Own.lit0 enc2 2 33 w w.heap.size rfl (Nat.le_refl _)).alloc (.cells #[.int .i64 u, .int .i64 p] 33)).below b1 (Nat.le_refl _))
        have N1 := (Blk.new (w.alloc (.cells #[] 33)) 33 #[.int .i64 u, .int .i64 p]).below b1 (by simp)
        rw [show (w.alloc (.cells #[] 33)).heap.size = w.heap.size + 1 by simp] at N1
        have D1 := hid (HD0.out.trans (b1.mono (by simp; omega)))
        clear h0 b1
        go_loopw [10, 8] (fun i v wr => EarnRel1 w (w.heap.size + 1) l p u i v wr) (fun i _ _ => l.length - (intOf i).toNat)
        case atStart => exact ⟨0, [], Nat.zero_le _, rfl, by simp [lower], O1, by simp [Value.ownBlock], D1.out, by simpa [eqSum] using N1⟩
        case round =>
          obtain ⟨k, o, hk, rfl, hoe, ho, hne, hb, hN⟩ := hrel
          have HO := hid hoe
          have hol : o.length ≤ 8 := by rw [hoe]; have := lower_len (u := u) (l := l.take k); rw [List.length_take] at this; omega
          have hsz := hb.size
          have HB := hid hb
          have zN := hN.lt
          obtain ⟨n0, n1, nf⟩ := hN.two
          have hek := eqSum_bd (u := u) (l.take k) (fun x hx => HV.out.bd x (List.mem_of_mem_take hx))
          have hekl : (l.take k).length ≤ 8 := by rw [List.length_take]; omega
          clear D1 O1 N1 hoe
          by_cases hlt : k < l.length
          · obtain ⟨b, off, rfl, hbb, c1, c2⟩ := h.get2 hlt
            have d1 : wr.cell? ⟨b, off + k * 2, none⟩ = some (.int .i64 (g1 l k)) := (hb.cell hbb).trans c1
            have d2 : wr.cell? ⟨b, off + k * 2 + 1, none⟩ = some (.int .i64 (g2 l k)) := (hb.cell hbb).trans c2
            have hbw : b < wr.heap.size := by omega
            have HT := hid (take_succ2 hlt)
            have hq := HV.out.bd _ (List.getElem_mem hlt)
            rw [g12_eq hlt] at hq
            obtain ⟨hq1, hq2⟩ := hq
            dsimp only at hq1 hq2
            generalize hE : eqSum u (l.take k) = E at *
            have HE := hid hE
            clear c1 c2 hb hE
            by_cases hlo : g1 l k < u
            · go_wp2_with (at_builtin; refine wpList_push len2 one2 rfl (.tmp 43) (.tmp 48) _ rfl Try.underlying23 lotInfo rfl (by omega) (by omega) rfl (ho) ⟨g1 l k, g2 l k⟩ (by simp) rfl rfl (by (try simp) <;> omega) (by (try simp) <;> omega) ?_)
              intro v2 w2 ho2 hg2 hat
              have D2 := hid (below_push HB.out hsz ho (Nat.le_refl _) hg2)
              have N2 := hid ((hN.alloc _).grown hg2 (fun e => hne e.symm))
              have hne2 : v2.ownBlock ≠ some (w.heap.size + 1) := by
                rcases hat with e | e
                · rw [e]; exact hne
                · rw [e]; simp; omega
              clear hg2 hat
              go_wp2
              go_roundw
              case rel =>
                refine ⟨k + 1, o ++ [(g1 l k, g2 l k)], by omega, by go_num, ?_, ho2, hne2, D2.out, ?_⟩
                · rw [HT.out, lower_snoc, if_pos hlo, HO.out]
                · rw [HT.out, eqSum_snoc, if_neg (by dsimp only; omega), HE.out]; exact N2.out
              case measure => simp [intOf]; omega
            · by_cases hEq : g1 l k ≤ u
              · have heq : (g1 l k == u) = true := by simp; omega
                have hge : ¬ g1 l k < u := hlo
                have HQ := hid (show g1 l k = u by omega)
                have N2 := hid (hN.set_ 1 (.int .i64 (p + E + g2 l k)))
                have o2 := hid (ho.far (p := ⟨w.heap.size + 1, 1, none⟩) hne (.int .i64 (p + E + g2 l k)))
                have D2 := hid (HB.out.setCell (p := ⟨w.heap.size + 1, 1, none⟩) (by simp) (.int .i64 (p + E + g2 l k)))
                go_wp2
                go_region
                go_wp2
                go_roundw
                case rel =>
                  refine ⟨k + 1, o, by omega, by go_num, ?_, o2.out, hne, D2.out.drew, ?_⟩
                  · rw [HT.out, lower_snoc, if_neg (by dsimp only; omega), HO.out]
                  · rw [HT.out, eqSum_snoc, if_pos HQ.out, HE.out, ← Int.add_assoc]
                    have h9 : Blk (wr.setCell ⟨w.heap.size + 1, 1, none⟩ (.int .i64 (p + E + g2 l k))) (w.heap.size + 1) 33 #[.int .i64 u, .int .i64 (p + E + g2 l k)] := by simpa using N2.out
                    exact h9
                case measure => simp [intOf]; omega
              · have heq : (g1 l k == u) = false := by simp; omega
                go_wp2
                go_roundw
                case rel =>
                  refine ⟨k + 1, o, by omega, by go_num, ?_, ho, hne, HB.out, ?_⟩
                  · rw [HT.out, lower_snoc, if_neg (by dsimp only; omega), HO.out]
                  · rw [HT.out, eqSum_snoc, if_neg (by dsimp only; omega), HE.out]; exact hN
                case measure => simp [intOf]; omega
          · have hkl : k = l.length := by omega
            subst hkl
            rw [List.take_length] at *
            generalize hE : eqSum u l = E at *
            have HE := hid hE
            clear hE hb
            go_wp2_with (at_builtin; refine wpList_push len2 one2 rfl (.tmp 67) (.tmp 69) _ rfl Try.underlying23 lotInfo rfl (by omega) (by omega) rfl (ho) ⟨u, p + E⟩ (by simp) rfl rfl (by (try simp) <;> omega) (by (try simp) <;> omega) ?_)
            intro v2 w2 ho2 hg2 _
            have D2 := hid (below_push HB.out hsz ho (Nat.le_refl _) hg2)
            clear hg2 hN n0 n1 nf zN
            go_wp2_with fail
            go_loopw [11, 8] (fun i v wr => EarnRel2 w l p u i v wr) (fun i _ _ => l.length - (intOf i).toNat)
            case atStart => exact ⟨0, _, Nat.zero_le _, rfl, by rw [HO.out, HE.out]; simp [upper], ho2, D2.out⟩
            case round =>
              clear ho HB ho2 D2 hsz
              obtain ⟨j, o3, hj, rfl, hoe, ho, hb⟩ := hrel
              have HO3 := hid hoe
              have hol3 : o3.length ≤ 17 := by
                rw [hoe]; have h1 := upper_len (u := u) (l := l.take j); rw [List.length_take] at h1; have h2 := lower_len (u := u) (l := l)
                simp only [List.length_append, List.length_cons]; omega
              have hsz := hb.size
              have HB := hid hb
              clear hoe
              by_cases hlt : j < l.length
              · obtain ⟨b, off, rfl, hbb, c1, c2⟩ := h.get2 hlt
                have d1 : wr.cell? ⟨b, off + j * 2, none⟩ = some (.int .i64 (g1 l j)) := (hb.cell hbb).trans c1
                have d2 : wr.cell? ⟨b, off + j * 2 + 1, none⟩ = some (.int .i64 (g2 l j)) := (hb.cell hbb).trans c2
                have HT := hid (take_succ2 hlt)
                clear c1 c2 hb
                by_cases hgt : u < g1 l j
                · go_wp2_with (at_builtin; refine wpList_push len2 one2 rfl (.tmp 84) (.tmp 89) _ rfl Try.underlying23 lotInfo rfl (by omega) (by omega) rfl (ho) ⟨g1 l j, g2 l j⟩ (by simp) rfl rfl (by (try simp) <;> omega) (by (try simp) <;> omega) ?_)
                  intro v3 w3 ho3 hg3 _
                  have D3 := hid (below_push HB.out hsz ho (Nat.le_refl _) hg3)
                  clear hg3
                  go_wp2
                  go_roundw
                  case rel =>
                    refine ⟨j + 1, o3 ++ [(g1 l j, g2 l j)], by omega, by go_num, ?_, ho3, D3.out⟩
                    rw [HT.out, upper_snoc, if_pos hgt, HO3.out]; simp
                  case measure => simp [intOf]; omega
                · have HG := hid hgt
                  go_wp2
                  go_roundw
                  case rel =>
                    refine ⟨j + 1, o3, by omega, by go_num, ?_, ho, HB.out⟩
                    rw [HT.out, upper_snoc, if_neg HG.out, HO3.out]
                  case measure => simp [intOf]; omega
              · have hjl : j = l.length := by omega
                subst hjl
                have HO2 := hid (show o3 = earn p u l by rw [HO3.out, List.take_length]; rfl)
                have DW := HB
                clear hb
                obtain ⟨A2, c2, rfl, _, hR⟩ := ho.reads len2
                by_cases hvo : vLots o3 = true
                · have HK := hid (show okEarn l p u = true by simp [okEarn, hv, hp, hu, ← HO2.out, hvo])
                  have HL := hid (show earnL p u l = o3 by rw [earnL, HK.out, if_pos rfl, HO2.out])
                  go_wp2_with (go_at_call 31; refine (svalidLots_any o3 A2 c2 _ hR (by omega)).mono ?_; rintro e w3 ⟨rfl, b3⟩)
                  go_ret2
                  refine ⟨.slice A2 o3.length c2, by rw [HK.out]; rfl, ?_, ?_⟩
                  · rw [HL.out]; exact ho.below b3 (Nat.le_refl _)
                  · exact DW.out.trans (b3.mono DW.out.size)
                · have hvo' : vLots o3 = false := by simpa using hvo
                  have HK := hid (show okEarn l p u = false by simp [okEarn, hv, hp, hu, ← HO2.out, hvo'])
                  have HL := hid (show earnL p u l = [] by simp [earnL, HK.out])
                  clear hvo
                  go_wp2_with (go_at_call 31; refine (svalidLots_any o3 A2 c2 _ hR (by omega)).mono ?_; rintro e w3 ⟨rfl, b3⟩)
                  go_ret2
                  refine ⟨.slice none 0 0, by rw [HK.out]; rfl, ?_, ?_⟩
                  · rw [HL.out]; exact Own.nil_ ..
                  · exact DW.out.trans (b3.mono DW.out.size)
      · have hu' : withinB u 0 999 = false := by simpa using hu
        clear hu
        have HP := hid (show okEarn l p u = false by simp [okEarn, hu'])
        go_enter Try.func13, Try.ntmps13
        go_wp2_with (first | (go_at_call 31; refine (svalidLots_any l A cap _ h0 (by omega)).mono ?_; rintro e w1 ⟨rfl, b1⟩) | (go_at_call 32; refine (inRange_any _ _ _ _).mono ?_; rintro e w' ⟨rfl, rfl⟩))
        go_ret2
        refine ⟨.slice none 0 0, by rw [HP.out]; rfl, ?_, ?_⟩
        · rw [show earnL p u l = [] by simp [earnL, HP.out]]
          exact Own.nil_ ..
        · exact HD0.out.trans (b1.mono (by simp; omega))
    · have hp' : withinB p 1 50000 = false := by simpa using hp
      clear hp
      have HP := hid (show okEarn l p u = false by simp [okEarn, hp'])
      go_enter Try.func13, Try.ntmps13
      go_wp2_with (first | (go_at_call 31; refine (svalidLots_any l A cap _ h0 (by omega)).mono ?_; rintro e w1 ⟨rfl, b1⟩) | (go_at_call 32; refine (inRange_any _ _ _ _).mono ?_; rintro e w' ⟨rfl, rfl⟩))
      go_ret2
      refine ⟨.slice none 0 0, by rw [HP.out]; rfl, ?_, ?_⟩
      · rw [show earnL p u l = [] by simp [earnL, HP.out]]
        exact Own.nil_ ..
      · exact HD0.out.trans (b1.mono (by simp; omega))
  · have hv' : vLots l = false := by simpa using hv
    clear hv
    have HP := hid (show okEarn l p u = false by simp [okEarn, hv'])
    go_enter Try.func13, Try.ntmps13
    go_wp2_with (first | (go_at_call 31; refine (svalidLots_any l A cap _ h0 (by omega)).mono ?_; rintro e w1 ⟨rfl, b1⟩) | (go_at_call 32; refine (inRange_any _ _ _ _).mono ?_; rintro e w' ⟨rfl, rfl⟩))
    go_ret2
    refine ⟨.slice none 0 0, by rw [HP.out]; rfl, ?_, ?_⟩
    · rw [show earnL p u l = [] by simp [earnL, HP.out]]
      exact Own.nil_ ..
    · exact HD0.out.trans (b1.mono (by simp; omega))

end Go.Proofs.Ytdnfhpgiphobgaa
