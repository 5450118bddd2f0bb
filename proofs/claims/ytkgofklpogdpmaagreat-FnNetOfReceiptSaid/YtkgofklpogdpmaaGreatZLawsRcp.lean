/- The walk of the law on the net amount of a receipt. -/
import Derived.Test.YtkgofklpogdpmaaGreatZI
import Derived.Test.YtkgofklpogdpmaaGreatZEqRcp
import Derived.Test.YtkgofklpogdpmaaGreatZE
namespace Go.Proofs.YtkgofklpogdpmaaGreat
open Go.RowKit

theorem net_ok {s : List (Int × Int × Int × Int)} {c : List (Int × Int)} {l : List Int} (hok : fitTax s c l = true) : 0 ≤ netI s c l ∧ netI s c l ≤ tot (g0 l) l.length := by
  have h1 := snt_bd (fun i (hi : i < (taxesI s c l).length) => taxes_lim hok hi) _ (Nat.le_refl _)
  have h2 := sta_bd (fun i (hi : i < (taxesI s c l).length) => taxes_lim hok hi) _ (Nat.le_refl _)
  have h3 := sgr_taxes hok
  rw [List.take_length] at h1 h2
  rw [netI_fit hok]
  unfold snt at h1 ⊢
  omega

/-- What a sale's four lists are. -/
def Four (w : World) (s : List (Int × Int × Int × Int)) (c : List (Int × Int)) (cu : List Int) (l : List ((Int × Int × Int × Int × Int × Int × Int) × (Int × Int) × (Option Addr × Nat × List (Int × Int)) × Int)) (A Ac Al Ar : Option Addr) : Prop :=
  Sl enc4 4 w w.heap.size A s ∧ Sl enc2 2 w w.heap.size Ac c ∧ Sl enc1 1 w w.heap.size Al cu ∧ Sl encR 11 w w.heap.size Ar l ∧ SpansIn w w.heap.size l
theorem Four.below {w w' : World} {s : List (Int × Int × Int × Int)} {c : List (Int × Int)} {cu : List Int} {l : List ((Int × Int × Int × Int × Int × Int × Int) × (Int × Int) × (Option Addr × Nat × List (Int × Int)) × Int)} {A Ac Al Ar : Option Addr} (h : Four w s c cu l A Ac Al Ar) (b : Below w.heap.size w w') : Four w' s c cu l A Ac Al Ar :=
  ⟨(h.1.below b (Nat.le_refl _)).more b.size, (h.2.1.below b (Nat.le_refl _)).more b.size, (h.2.2.1.below b (Nat.le_refl _)).more b.size, (h.2.2.2.1.below b (Nat.le_refl _)).more b.size, (h.2.2.2.2.below b (Nat.le_refl _)).more b.size⟩
theorem Sl.next {α : Type} {enc : α → List Value} {sz : Nat} {w w' : World} {A : Option Addr} {l : List α} (h : Sl enc sz w w.heap.size A l) (b : Below w.heap.size w w') : Sl enc sz w' w'.heap.size A l := (h.below b (Nat.le_refl _)).more b.size
theorem below_new (w : World) (o : Obj) : Below w.heap.size w (w.alloc o) := (Below.refl _ _).alloc (Nat.le_refl _) o

set_option maxHeartbeats 6400000 in
theorem fnNetOfReceipt_walk (w : World) (A : Option Addr) (len cap : Nat) (h : Bytes w w.heap.size A len cap) :
    Calls Tryz.prog 3 #[.slice A len cap] w fun e w' => e = .returned (.bool true) ∧ Below w.heap.size w w' := by
  by_cases hl : 1048576 < len
  · clear h
    go_enter Tryz.func3, Tryz.ntmps3
    go_wp2
    go_ret
    exact ⟨rfl, Below.refl _ _⟩
  · go_enter Tryz.func3, Tryz.ntmps3
    go_wp2_with fail
    refine (drawReceiptOf_any _ _ _ _ h).mono ?_
    rintro e w1 ⟨s, c, cu, l, A, Ac, Al, Ar, cap, capc, capl, capr, rfl, x1, x2, x3, x4, ⟨x5, x6⟩, S1, C1, P1, R1, Sp1, b1⟩
    have F1 := hid (show Four w1 s c cu l A Ac Al Ar from ⟨S1, C1, P1, R1, Sp1⟩)
    have D1 := hid b1
    clear h b1 S1 C1 P1 R1 Sp1
    go_wp2_with fail
    refine (receiptOfI_any s c cu l A Ac Al Ar cap capc capl capr _ F1.out.1 F1.out.2.1 F1.out.2.2.1 F1.out.2.2.2.1 F1.out.2.2.2.2 (by omega) (by omega) (by omega) (by omega) x5 x6).mono ?_
    intro e w2 hp
    rcases hp with ⟨hok, v, rfl, o, A1, A2, c1, c2, ho, rfl, O1, O2, b2⟩ | ⟨hok, rfl, b2⟩
    · obtain ⟨hf, hlen, hc8, hq48, _⟩ := rcp_ok hok ho
      obtain ⟨L, hL⟩ : ∃ x, (rcpOf s c cu o).1 = x := ⟨_, rfl⟩
      obtain ⟨q, hq⟩ : ∃ x, (rcpOf s c cu o).2 = x := ⟨_, rfl⟩
      rw [hL] at hf hlen O1 ⊢
      rw [hq] at hq48 O2 ⊢
      have HN := hid (net_ok hf)
      have HOK := hid hok
      have HO := hid ho
      have HL := hid hL
      have HQ := hid hq
      have HLC := hid hlen
      have hl8 : L.length ≤ 8 := by omega
      have F2 := hid (F1.out.below b2)
      have D2 := hid (D1.out.trans (b2.mono D1.out.size))
      have T2 := hid (O1.sl len1)
      have U2 := hid (O2.sl len3)
      clear hf hok ho hL hq hlen O1 O2 b2 F1 D1
      obtain ⟨w3, hw3⟩ : ∃ x, x = w2.alloc (.cells #[.slice A1 L.length c1, .slice A2 q.length c2] 31) := ⟨_, rfl⟩
      have HW3 := hid hw3
      have b3 : Below w2.heap.size w2 w3 := by rw [hw3]; exact below_new _ _
      have K3 := hid (Blk.new w2 31 #[.slice A1 L.length c1, .slice A2 q.length c2])
      rw [← hw3] at K3
      have F3 := hid (F2.out.below b3)
      have D3 := hid (D2.out.trans (b3.mono D2.out.size))
      have T3 := hid (T2.out.next b3)
      have U3 := hid (U2.out.next b3)
      clear hw3 b3 F2 D2 T2 U2
      go_wp2_with fail
      rw [← HW3.out]
      refine (receiptOfS_any s c cu l A Ac Al Ar cap capc capl capr _ F3.out.1 F3.out.2.1 F3.out.2.2.1 F3.out.2.2.2.1 F3.out.2.2.2.2 (by omega) (by omega) (by omega) (by omega)).mono ?_
      intro e w4 hp
      rcases hp with ⟨hok, v, rfl, o', B1, B2, d1, d2, ho, rfl, O1, O2, b4⟩ | ⟨hok, _, _⟩
      · have heq : o' = o := by
          have h9 := HOK.out
          unfold rcpOk at h9
          simp only [Bool.and_eq_true] at h9
          exact ord_uniq h9.2.1 ho HO.out
        rw [heq, HL.out] at O1
        rw [heq, HQ.out] at O2
        rw [heq, HL.out, HQ.out]
        have F4 := hid (F3.out.below b4)
        have D4 := hid (D3.out.trans (b4.mono D3.out.size))
        have T4 := hid (T3.out.next b4)
        have U4 := hid (U3.out.next b4)
        have K4 := hid (K3.out.below b4 K3.out.lt)
        have P4 := hid (O1.sl len1)
        have Q4 := hid (O2.sl len3)
        clear hok ho heq O1 O2 b4 F3 D3 T3 U3 K3
        obtain ⟨w5, hw5⟩ : ∃ x, x = w4.alloc (.cells #[.slice B1 L.length d1, .slice B2 q.length d2] 31) := ⟨_, rfl⟩
        have HW5 := hid hw5
        have b5 : Below w4.heap.size w4 w5 := by rw [hw5]; exact below_new _ _
        have J5 := hid (Blk.new w4 31 #[.slice B1 L.length d1, .slice B2 q.length d2])
        rw [← hw5] at J5
        have F5 := hid (F4.out.below b5)
        have D5 := hid (D4.out.trans (b5.mono D4.out.size))
        have T5 := hid (T4.out.next b5)
        have U5 := hid (U4.out.next b5)
        have P5 := hid (P4.out.next b5)
        have Q5 := hid (Q4.out.next b5)
        have K5 := hid (K4.out.below b5 K4.out.lt)
        have k0 := K4.out.cell 0
        have k1 := K4.out.cell 1
        have kz := K4.out.lt
        clear hw5 b5 F4 D4 T4 U4 P4 Q4
        go_wp2_with fail
        rw [← HW5.out]
        refine (equalReceipt_same L q A1 A2 B1 B2 c1 c2 d1 d2 _ T5.out U5.out P5.out Q5.out (by omega) (by omega)).mono ?_
        rintro e w6 ⟨rfl, b6⟩
        have F6 := hid (F5.out.below b6)
        have D6 := hid (D5.out.trans (b6.mono D5.out.size))
        have T6 := hid (T5.out.next b6)
        have K6 := hid (K5.out.below b6 K5.out.lt)
        have j0 := K6.out.cell 0
        clear b6 k0 k1 kz F5 D5 T5 U5 P5 Q5 K5 J5
        go_wp2_with fail
        refine (netOf_any s c L A Ac A1 cap capc c1 _ F6.out.1 F6.out.2.1 T6.out (by omega) (by omega) (by omega)).mono ?_
        rintro e w7 ⟨rfl, b7⟩
        have F7 := hid (F6.out.below b7)
        have D7 := hid (D6.out.trans (b7.mono D6.out.size))
        obtain ⟨n, hn⟩ : ∃ x, netI s c L = x := ⟨_, rfl⟩
        have HNN := HN.out
        rw [hn] at HNN ⊢
        obtain ⟨n0, hnt⟩ := HNN
        have HT := hid hnt
        clear b7 hn hnt j0 F6 D6 T6
        go_wp2_with fail
        refine (payOf_yes s c cu l A Ac Al Ar cap capc capl capr _ F7.out.1 F7.out.2.1 F7.out.2.2.1 F7.out.2.2.2.1 F7.out.2.2.2.2 (by omega) (by omega) (by omega) (by omega) x5 x6 HOK.out).mono ?_
        rintro e w8 ⟨o'', ho, rfl, b8⟩
        have heq : o'' = o := by
          have h9 := HOK.out
          unfold rcpOk at h9
          simp only [Bool.and_eq_true] at h9
          exact ord_uniq h9.2.1 ho HO.out
        rw [heq, HL.out]
        have D8 := hid (D7.out.trans (b8.mono D7.out.size))
        obtain ⟨T, hT⟩ : ∃ x, tot (g0 L) L.length = x := ⟨_, rfl⟩
        have hnt := HT.out
        rw [hT] at hnt ⊢
        clear b8 heq ho hT F7 D7 HT
        go_wp2
        go_ret
        exact ⟨ret_bool (by first | rfl | simp [hnt]), D8.out⟩
      · have := HOK.out
        rw [hok] at this
        cases this
    · have F2 := hid (F1.out.below b2)
      have D2 := hid (D1.out.trans (b2.mono D1.out.size))
      have HNO := hid hok
      clear hok b2 F1 D1
      obtain ⟨w3, hw3⟩ : ∃ x, x = w2.alloc (.cells #[.slice none 0 0, .slice none 0 0] 31) := ⟨_, rfl⟩
      have HW3 := hid hw3
      have b3 : Below w2.heap.size w2 w3 := by rw [hw3]; exact below_new _ _
      have K3 := hid (Blk.new w2 31 #[.slice none 0 0, .slice none 0 0])
      rw [← hw3] at K3
      have F3 := hid (F2.out.below b3)
      have D3 := hid (D2.out.trans (b3.mono D2.out.size))
      clear hw3 b3 F2 D2
      go_wp2_with fail
      rw [← HW3.out]
      refine (receiptOfS_any s c cu l A Ac Al Ar cap capc capl capr _ F3.out.1 F3.out.2.1 F3.out.2.2.1 F3.out.2.2.2.1 F3.out.2.2.2.2 (by omega) (by omega) (by omega) (by omega)).mono ?_
      intro e w4 hp
      rcases hp with ⟨hok, _, _⟩ | ⟨hok, rfl, b4⟩
      · have := HNO.out
        rw [hok] at this
        cases this
      · have D4 := hid (D3.out.trans (b4.mono D3.out.size))
        have K4 := hid (K3.out.below b4 K3.out.lt)
        clear hok b4 F3 D3 K3
        obtain ⟨w5, hw5⟩ : ∃ x, x = w4.alloc (.cells #[.slice none 0 0, .slice none 0 0] 31) := ⟨_, rfl⟩
        have HW5 := hid hw5
        have b5 : Below w4.heap.size w4 w5 := by rw [hw5]; exact below_new _ _
        have J5 := hid (Blk.new w4 31 #[.slice none 0 0, .slice none 0 0])
        rw [← hw5] at J5
        have D5 := hid (D4.out.trans (b5.mono D4.out.size))
        have K5 := hid (K4.out.below b5 K4.out.lt)
        have k0 := K4.out.cell 0
        have k1 := K4.out.cell 1
        have kz := K4.out.lt
        clear hw5 b5 D4
        go_wp2_with fail
        rw [← HW5.out]
        refine (equalReceipt_same [] [] none none none none 0 0 0 0 _ (.inl rfl) (.inl rfl) (.inl rfl) (.inl rfl) (by simp) (by simp)).mono ?_
        rintro e w6 ⟨rfl, b6⟩
        have D6 := hid (D5.out.trans (b6.mono D5.out.size))
        have K6 := hid (K5.out.below b6 K5.out.lt)
        have J6 := hid (J5.out.below b6 J5.out.lt)
        have i0 := K6.out.cell 0
        have i1 := K6.out.cell 1
        have j0 := J6.out.cell 0
        have j1 := J6.out.cell 1
        clear b6 k0 k1 kz D5 K5 J5
        go_wp2_with fail
        refine (equalReceipt_same [] [] none none none none 0 0 0 0 _ (.inl rfl) (.inl rfl) (.inl rfl) (.inl rfl) (by simp) (by simp)).mono ?_
        rintro e w7 ⟨rfl, b7⟩
        have D7 := hid (D6.out.trans (b7.mono D6.out.size))
        clear b7 i0 i1 j0 j1 D6
        go_wp2
        go_ret
        exact ⟨ret_bool rfl, D7.out⟩

end Go.Proofs.YtkgofklpogdpmaaGreat
