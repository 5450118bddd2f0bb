/- Contract: earning points, as the program does it. -/
import Derived.Test.YtdnfhpgiphobgaaLotsW
import Derived.Test.YtdnfhpgiphobgaaLotsE
import Derived.Test.YtdnfhpgiphobgaaApp
namespace Go.Proofs.Ytdnfhpgiphobgaa
open Go.RowKit

theorem lotInfo : (Try.prog.info? 33).map (fun i => (i.zero, i.size, i.bytes)) = some (some (.agg #[.int .i64 0, .int .i64 0]), 2, 16) := by kernel_rfl

/-- What earning leaves: the lots, if all is fine, and else none. -/
def earnL (p u : Int) (l : List (Int × Int)) : List (Int × Int) := if okEarn l p u then earn p u l else []
theorem earnL_len {p u : Int} {l : List (Int × Int)} : (earnL p u l).length ≤ 1048576 := by
  unfold earnL
  split
  · rename_i h
    have := (vLots_iff.1 (okEarn_true h).2.2.2).2.2
    omega
  · simp
def EarnPost (w : World) (l : List (Int × Int)) (p u : Int) (e : Ending) (w' : World) : Prop :=
  ∃ v, e = .returned (.tuple #[v, .bool (okEarn l p u)]) ∧ Own enc2 2 33 w' w.heap.size v (earnL p u l) ∧ Below w.heap.size w w'

/-- The loop's round: out holds the lots of the first k, with the points earned if they had their place. -/
def EarnRel (w : World) (l : List (Int × Int)) (p u : Int) (i v dn : Value) (wr : World) : Prop :=
  ∃ (k : Nat) (o : List (Int × Int)) (d : Bool), k ≤ l.length ∧ i = .int .i64 k ∧ dn = .bool d ∧ Own enc2 2 33 wr w.heap.size v o ∧ Below w.heap.size w wr ∧
    (d = false → o = l.take k ∧ ∀ x ∈ l.take k, x.1 < u) ∧ (d = true → o = earn p u (l.take k) ∧ ∃ x ∈ l.take k, u ≤ x.1)

theorem earn_len {p u : Int} {l : List (Int × Int)} : (earn p u l).length ≤ l.length + 1 := by
  unfold earn lower upper
  have h1 : ∀ (l : List (Int × Int)), (l.filter fun x => decide (x.1 < u)).length + (l.filter fun x => decide (u < x.1)).length ≤ l.length := by
    intro l
    induction l with
    | nil => simp
    | cons x r ih => simp only [List.filter_cons, List.length_cons]; split <;> split <;> simp_all <;> omega
  have := h1 l
  simp only [List.length_append, List.length_cons]; omega

set_option maxHeartbeats 3200000 in
theorem earnPoints_any (l : List (Int × Int)) (A : Option Addr) (cap : Nat) (p u : Int) (w : World) (h : Sl enc2 2 w w.heap.size A l) (hl : l.length ≤ 1048576) :
    Calls Try.prog 12 #[.slice A l.length cap, .int .i64 p, .int .i64 u] w (EarnPost w l p u) := by
  by_cases hv : vLots l = true
  · by_cases hp : withinB p 1 50000 = true
    · by_cases hu : withinB u 0 999 = true
      · have HV := hid (vLots_iff.1 hv)
        have hl8 := HV.out.2.2
        obtain ⟨p1, p2⟩ := withinB_true.1 hp
        go_enter Try.func12, Try.ntmps12
        go_wp2_with (first | (go_at_call 18; refine (validLots_any l A cap _ h (by omega)).mono ?_; rintro e w1 ⟨rfl, b1⟩) | (go_at_call 30; refine (within_any _ _ _ _).mono ?_; rintro e w' ⟨rfl, rfl⟩))
        have z1 := b1.size
        have O1 := Own.lit0 enc2 2 33 w1 w.heap.size rfl b1.size
        have D1 := hid (b1.alloc b1.size (.cells #[] 33))
        go_loopw [29, 8, 9] (fun i v dn wr => EarnRel w l p u i v dn wr) (fun i _ _ _ => l.length - (intOf i).toNat)
        case atStart => exact ⟨0, [], false, Nat.zero_le _, rfl, rfl, O1, D1.out, fun _ => ⟨by simp, by simp⟩, (fun h => by cases h)⟩
        case round =>
          obtain ⟨k, o, d, hk, rfl, rfl, ho, hb, hf, ht⟩ := hrel
          have hsz := hb.size
          have HB := hid hb
          clear D1 O1
          by_cases hlt : k < l.length
          · obtain ⟨b, off, rfl, hbb, c1, c2⟩ := h.get2 hlt
            have d1 : wr.cell? ⟨b, off + k * 2, none⟩ = some (.int .i64 (g1 l k)) := (hb.cell hbb).trans c1
            have d2 : wr.cell? ⟨b, off + k * 2 + 1, none⟩ = some (.int .i64 (g2 l k)) := (hb.cell hbb).trans c2
            have hbw : b < wr.heap.size := by omega
            have HT := hid (take_succ2 hlt)
            clear c1 c2 hb
            cases d
            · obtain ⟨ho1, ho2⟩ := hf rfl
              clear hf ht
              have hol : o.length ≤ 8 := by rw [ho1, List.length_take]; omega
              have HO := hid ho1
              have HO2 := hid ho2
              clear ho1 ho2
              by_cases hgt : u < g1 l k
              · have hne : (g1 l k == u) = false := by simp; omega
                go_wp2_with (at_builtin; refine wpList_push len2 one2 rfl (.tmp 41) (.tmp 45) _ rfl Try.underlying23 lotInfo rfl (by omega) (by omega) rfl (ho.alloc _) ⟨u, p⟩ (by simp) rfl rfl (by (try simp) <;> omega) (by (try simp) <;> omega) ?_)
                intro v1 w2 ho2 hg2 _
                have L2 := ((Blk.new wr 33 #[.int .i64 (g1 l k), .int .i64 (g2 l k)]).alloc _).grown hg2 (ho.off_new (Nat.le_refl _))
                have D2 := below_push (HB.out.alloc hsz _) (by simp; omega) (ho.alloc _) (Nat.le_refl _) hg2
                have HD := hid D2
                have z2 := D2.size
                have z3 := L2.lt
                obtain ⟨m0, m1, mf⟩ := L2.two
                clear hg2 D2 L2
                go_wp2_with (at_builtin; refine wpList_push len2 one2 rfl (.tmp 56) (.tmp 58) _ rfl Try.underlying23 lotInfo rfl (by omega) (by omega) rfl (ho2) ⟨g1 l k, g2 l k⟩ (by simp) rfl rfl (by (try simp) <;> omega) (by (try simp) <;> omega) ?_)
                intro v2 w3 ho3 hg3 _
                have D3 := hid (below_push HD.out z2 ho2 (Nat.le_refl _) hg3)
                clear hg3
                go_wp2
                go_roundw
                case rel =>
                  refine ⟨k + 1, _, true, by omega, by go_num, rfl, ho3, D3.out, (fun h => by cases h), fun _ => ⟨?_, (g1 l k, g2 l k), by rw [HT.out]; simp, by dsimp only; omega⟩⟩
                  rw [HT.out, earn_snoc_gt (x := (g1 l k, g2 l k)) hgt, earn_lt HO2.out, HO.out] <;> simp
                case measure => simp [intOf]; omega
              · by_cases hEq : u ≤ g1 l k
                · have hge : ¬ u < g1 l k := hgt
                  have hne : (g1 l k == u) = true := by simp; omega
                  have hq := HV.out.bd _ (List.getElem_mem hlt)
                  rw [g12_eq hlt] at hq
                  obtain ⟨hq1, hq2⟩ := hq
                  dsimp only at hq1 hq2
                  have HE := hid (show g1 l k = u by omega)
                  go_wp2_with (at_builtin; refine wpList_push len2 one2 rfl (.tmp 56) (.tmp 58) _ rfl Try.underlying23 lotInfo rfl (by omega) (by omega) rfl (ho.alloc _) ⟨g1 l k, g2 l k + p⟩ (by simp) rfl rfl (by (try simp) <;> omega) (by (try simp) <;> omega) ?_)
                  intro v2 w2 ho2 hg2 _
                  have D2 := hid (below_push (HB.out.alloc hsz _) (by simp; omega) (ho.alloc _) (Nat.le_refl _) hg2)
                  clear hg2
                  go_wp2
                  go_roundw
                  case rel =>
                    refine ⟨k + 1, _, true, by omega, by go_num, rfl, ho2, D2.out, (fun h => by cases h), fun _ => ⟨?_, (g1 l k, g2 l k), by rw [HT.out]; simp, by dsimp only; have := HE.out; omega⟩⟩
                    rw [HT.out, earn_snoc_eq (x := (g1 l k, g2 l k)) HO2.out HE.out, HO.out, HE.out]
                  case measure => simp [intOf]; omega
                · have hne : (g1 l k == u) = false := by simp; omega
                  go_wp2_with (at_builtin; refine wpList_push len2 one2 rfl (.tmp 56) (.tmp 58) _ rfl Try.underlying23 lotInfo rfl (by omega) (by omega) rfl (ho.alloc _) ⟨g1 l k, g2 l k⟩ (by simp) rfl rfl (by (try simp) <;> omega) (by (try simp) <;> omega) ?_)
                  intro v2 w2 ho2 hg2 _
                  have D2 := hid (below_push (HB.out.alloc hsz _) (by simp; omega) (ho.alloc _) (Nat.le_refl _) hg2)
                  clear hg2
                  go_wp2
                  go_roundw
                  case rel =>
                    refine ⟨k + 1, _, false, by omega, by go_num, rfl, ho2, D2.out, fun _ => ⟨by rw [HT.out, HO.out], ?_⟩, (fun h => by cases h)⟩
                    rw [HT.out]
                    intro x hx
                    rcases List.mem_append.1 hx with hx | hx
                    · exact HO2.out x hx
                    · simp at hx; subst hx; dsimp only; omega
                  case measure => simp [intOf]; omega
            · obtain ⟨ho1, y, hy1, hy2⟩ := ht rfl
              clear hf ht
              have hol : o.length ≤ 9 := by rw [ho1]; have := earn_len (p := p) (u := u) (l := l.take k); rw [List.length_take] at this; omega
              have HO := hid ho1
              clear ho1
              have hgt : u < g1 l k := by
                obtain ⟨j, hj, hjy⟩ := List.mem_iff_getElem.1 hy1
                have hjk : j < k := by rw [List.length_take] at hj; omega
                have h3 := List.pairwise_iff_getElem.1 HV.out.1 j k (by omega) hlt hjk
                rw [List.getElem_take] at hjy
                rw [hjy, g12_eq hlt] at h3
                dsimp only at h3
                omega
              have hne : (g1 l k == u) = false := by simp; omega
              clear hy1 hy2
              go_wp2_with (at_builtin; refine wpList_push len2 one2 rfl (.tmp 56) (.tmp 58) _ rfl Try.underlying23 lotInfo rfl (by omega) (by omega) rfl (ho.alloc _) ⟨g1 l k, g2 l k⟩ (by simp) rfl rfl (by (try simp) <;> omega) (by (try simp) <;> omega) ?_)
              intro v2 w2 ho2 hg2 _
              have D2 := hid (below_push (HB.out.alloc hsz _) (by simp; omega) (ho.alloc _) (Nat.le_refl _) hg2)
              clear hg2
              go_wp2
              go_roundw
              case rel =>
                refine ⟨k + 1, _, true, by omega, by go_num, rfl, ho2, D2.out, (fun h => by cases h), fun _ => ⟨?_, (g1 l k, g2 l k), by rw [HT.out]; simp, by dsimp only; omega⟩⟩
                rw [HT.out, earn_snoc_gt (x := (g1 l k, g2 l k)) hgt, HO.out]
              case measure => simp [intOf]; omega
          · have hkl : k = l.length := by omega
            subst hkl
            rw [List.take_length] at hf ht
            cases d
            · obtain ⟨ho1, ho3⟩ := hf rfl
              clear hf ht
              have hol : o.length ≤ 8 := by rw [ho1]; exact hl8
              have HO := hid (show o ++ [(u, p)] = earn p u l by rw [earn_lt ho3, ho1])
              clear ho1 ho3 hb
              go_wp2_with (at_builtin; refine wpList_push len2 one2 rfl (.tmp 63) (.tmp 67) _ rfl Try.underlying23 lotInfo rfl (by omega) (by omega) rfl (ho) ⟨u, p⟩ (by simp) rfl rfl (by (try simp) <;> omega) (by (try simp) <;> omega) ?_)
              intro v2 w2 ho2 hg2 _
              have DW := hid (below_push HB.out hsz ho (Nat.le_refl _) hg2)
              clear hg2
              obtain ⟨o2, hoe⟩ : ∃ o2, o2 = o ++ [(u, p)] := ⟨_, rfl⟩
              rw [← hoe] at ho2
              have HO2 := hid (show o2 = earn p u l by rw [hoe, HO.out])
              have hol2 : o2.length ≤ 9 := by rw [hoe]; simp; omega
              clear hoe
              obtain ⟨A2, c2, rfl, _, hR⟩ := ho2.reads len2
              have hS := hR
              by_cases hvo : vLots o2 = true
              · have HK := hid (show okEarn l p u = true by simp [okEarn, hv, hp, hu, ← HO2.out, hvo])
                have HL := hid (show earnL p u l = o2 by rw [earnL, HK.out, if_pos rfl, HO2.out])
                go_wp2_with (go_at_call 18; refine (validLots_any o2 A2 c2 _ hS (by omega)).mono ?_; rintro e w3 ⟨rfl, b3⟩)
                go_ret2
                refine ⟨.slice A2 o2.length c2, by rw [HK.out]; rfl, ?_, ?_⟩
                · rw [HL.out]; exact ho2.below b3 (Nat.le_refl _)
                · have := DW.out
                  exact this.trans (b3.mono this.size)
              · have hvo' : vLots o2 = false := by simpa using hvo
                have HK := hid (show okEarn l p u = false by simp [okEarn, hv, hp, hu, ← HO2.out, hvo'])
                have HL := hid (show earnL p u l = [] by simp [earnL, HK.out])
                clear hvo
                go_wp2_with (go_at_call 18; refine (validLots_any o2 A2 c2 _ hS (by omega)).mono ?_; rintro e w3 ⟨rfl, b3⟩)
                go_ret2
                refine ⟨.slice (some ⟨w3.heap.size, 0, none⟩) 0 0, by rw [HK.out]; rfl, ?_, ?_⟩
                · rw [HL.out]; exact Own.lit0 enc2 2 _ w3 w.heap.size rfl (by have := DW.out.size; have := b3.size; omega)
                · have h1 := DW.out.trans (b3.mono DW.out.size)
                  exact h1.alloc h1.size _
            · obtain ⟨ho1, _⟩ := ht rfl
              clear hf ht hb
              have hol2 : o.length ≤ 9 := by rw [ho1]; have := earn_len (p := p) (u := u) (l := l); omega
              have HO2 := hid ho1
              clear ho1
              have ho2 := ho
              clear ho
              obtain ⟨o2, hoe⟩ : ∃ o2, o2 = o := ⟨_, rfl⟩
              subst hoe
              have DW := HB
              obtain ⟨A2, c2, rfl, _, hR⟩ := ho2.reads len2
              have hS := hR
              by_cases hvo : vLots o2 = true
              · have HK := hid (show okEarn l p u = true by simp [okEarn, hv, hp, hu, ← HO2.out, hvo])
                have HL := hid (show earnL p u l = o2 by rw [earnL, HK.out, if_pos rfl, HO2.out])
                go_wp2_with (go_at_call 18; refine (validLots_any o2 A2 c2 _ hS (by omega)).mono ?_; rintro e w3 ⟨rfl, b3⟩)
                go_ret2
                refine ⟨.slice A2 o2.length c2, by rw [HK.out]; rfl, ?_, ?_⟩
                · rw [HL.out]; exact ho2.below b3 (Nat.le_refl _)
                · have := DW.out
                  exact this.trans (b3.mono this.size)
              · have hvo' : vLots o2 = false := by simpa using hvo
                have HK := hid (show okEarn l p u = false by simp [okEarn, hv, hp, hu, ← HO2.out, hvo'])
                have HL := hid (show earnL p u l = [] by simp [earnL, HK.out])
                clear hvo
                go_wp2_with (go_at_call 18; refine (validLots_any o2 A2 c2 _ hS (by omega)).mono ?_; rintro e w3 ⟨rfl, b3⟩)
                go_ret2
                refine ⟨.slice (some ⟨w3.heap.size, 0, none⟩) 0 0, by rw [HK.out]; rfl, ?_, ?_⟩
                · rw [HL.out]; exact Own.lit0 enc2 2 _ w3 w.heap.size rfl (by have := DW.out.size; have := b3.size; omega)
                · have h1 := DW.out.trans (b3.mono DW.out.size)
                  exact h1.alloc h1.size _
      · have hu' : withinB u 0 999 = false := by simpa using hu
        clear hu
        have HP := hid (show okEarn l p u = false by simp [okEarn, hu'])
        go_enter Try.func12, Try.ntmps12
        go_wp2_with (first | (go_at_call 18; refine (validLots_any l A cap _ h (by omega)).mono ?_; rintro e w1 ⟨rfl, b1⟩) | (go_at_call 30; refine (within_any _ _ _ _).mono ?_; rintro e w' ⟨rfl, rfl⟩))
        go_ret2
        refine ⟨.slice (some ⟨w1.heap.size, 0, none⟩) 0 0, by rw [HP.out]; rfl, ?_, b1.alloc b1.size _⟩
        rw [show earnL p u l = [] by simp [earnL, HP.out]]
        exact Own.lit0 enc2 2 _ w1 w.heap.size rfl b1.size
    · have hp' : withinB p 1 50000 = false := by simpa using hp
      clear hp
      have HP := hid (show okEarn l p u = false by simp [okEarn, hp'])
      go_enter Try.func12, Try.ntmps12
      go_wp2_with (first | (go_at_call 18; refine (validLots_any l A cap _ h (by omega)).mono ?_; rintro e w1 ⟨rfl, b1⟩) | (go_at_call 30; refine (within_any _ _ _ _).mono ?_; rintro e w' ⟨rfl, rfl⟩))
      go_ret2
      refine ⟨.slice (some ⟨w1.heap.size, 0, none⟩) 0 0, by rw [HP.out]; rfl, ?_, b1.alloc b1.size _⟩
      rw [show earnL p u l = [] by simp [earnL, HP.out]]
      exact Own.lit0 enc2 2 _ w1 w.heap.size rfl b1.size
  · have hv' : vLots l = false := by simpa using hv
    have HP := hid (show okEarn l p u = false by simp [okEarn, hv'])
    clear hv
    go_enter Try.func12, Try.ntmps12
    go_wp2_with (go_at_call 18; refine (validLots_any l A cap _ h (by omega)).mono ?_; rintro e w1 ⟨rfl, b1⟩)
    go_ret2
    refine ⟨.slice (some ⟨w1.heap.size, 0, none⟩) 0 0, by rw [HP.out]; rfl, ?_, b1.alloc b1.size _⟩
    rw [show earnL p u l = [] by simp [earnL, HP.out]]
    exact Own.lit0 enc2 2 _ w1 w.heap.size rfl b1.size

end Go.Proofs.Ytdnfhpgiphobgaa
