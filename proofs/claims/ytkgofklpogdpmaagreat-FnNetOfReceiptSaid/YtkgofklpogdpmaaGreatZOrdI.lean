/- Contract: rules ordered, as the program does it: the same rules, none before one that comes before it. -/
import Derived.Test.YtkgofklpogdpmaaGreatZOrdC
import Derived.Test.YtkgofklpogdpmaaGreatZC
import Derived.Sort.OwnSorted
namespace Go.Proofs.YtkgofklpogdpmaaGreat
open Go.RowKit Go.Sort Go.Shelf

theorem holdsK_of_own {α : Type} [Inhabited α] {enc : α → List Value} {k : Nat} (henc : ∀ a, (enc a).length = k) (hk : 0 < k) {e : TypeId} {w : World} {base g n cap : Nat} {l : List α} (h : Own enc k e w base (.slice (some ⟨g, 0, none⟩) n cap) l) (hn : n = l.length) :
    HoldsK enc k w g 0 l.toArray := by
  intro t ht
  rw [size_flatK] at ht
  have ht' : t < l.length * k := by simpa using ht
  have hi : t / k < l.length := by rwa [Nat.div_lt_iff_lt_mul hk]
  have hm : t % k < k := Nat.mod_lt _ hk
  have e1 : t / k * k + t % k = t := by rw [Nat.mul_comm]; exact Nat.div_add_mod t k
  have hg : l[t / k]? = some l[t / k] := List.getElem?_eq_getElem hi
  have hu : (enc l[t / k])[t % k]? = some ((enc l[t / k])[t % k]'(by rw [henc]; exact hm)) := List.getElem?_eq_getElem _
  have hc := h.cell henc hn hg hu
  rw [e1] at hc
  refine ⟨?_, h.frozen hn _⟩
  rw [get_flatK _ _ _ _ ht, Nat.zero_add, hc]
  have e2 : l.toArray[t / k]! = l[t / k] := by simp [hi]
  rw [e2]
  simp only [id]
  rw [getElem!_pos _ _ (by rw [henc]; exact hm)]
theorem sl_of_holdsK {α : Type} [Inhabited α] {enc : α → List Value} {k : Nat} (henc : ∀ a, (enc a).length = k) {w : World} {g B : Nat} {d : Array α} (h : HoldsK enc k w g 0 d) (hB : g < B) : Sl enc k w B (some ⟨g, 0, none⟩) d.toList := by
  refine .inr ⟨g, 0, rfl, hB, fun i a hi j u hu => ?_⟩
  have hil : i < d.size := by simpa using (List.getElem?_eq_some_iff.1 hi).1
  have hjl : j < k := by
    have := (List.getElem?_eq_some_iff.1 hu).1
    rwa [henc] at this
  have h1 := (h.cell hil hjl).1
  have e1 : d[i]! = a := by
    rw [getElem!_pos d i hil]
    have := (List.getElem?_eq_some_iff.1 hi).2
    simpa using this
  rw [e1] at h1
  rw [← Nat.add_assoc, h1]
  congr 1
  rw [getElem!_pos _ _ (by rw [henc]; exact hjl)]
  exact (List.getElem?_eq_some_iff.1 hu).2
theorem grownBy_sortK {α : Type} [Inhabited α] (enc : α → List Value) (k : Nat) (w : World) (g n : Nat) (d : Array α) (os : Array Obj) : w.grownBy (sortWorldK enc k w g 0 n d os) (some g) := by
  refine ⟨rfl, rfl, rfl, by simp [sortWorldK, putRowK], fun b hb hne => ?_⟩
  unfold sortWorldK
  rw [heap_grow_old _ _ (by simpa [putRowK] using hb)]
  have : g ≠ b := fun e => hne (by rw [e])
  simp [putRowK, putRow, mapBlock, Sort.ahead, Array.getElem?_modify, this]

theorem cmpI_cases (a b : Int) : (a < b ∧ Lib.compareInt a b = -1) ∨ (a = b ∧ Lib.compareInt a b = 0) ∨ (b < a ∧ Lib.compareInt a b = 1) := by
  unfold Lib.compareInt
  by_cases h1 : a < b
  · exact .inl ⟨h1, by rw [if_pos h1]⟩
  · by_cases h2 : a > b
    · exact .inr (.inr ⟨h2, by rw [if_neg h1, if_pos h2]⟩)
    · exact .inr (.inl ⟨by omega, by rw [if_neg h1, if_neg h2]⟩)
/-- One rule comes before another. -/
def befL (lv rk n lv' rk' n' : Int) : Prop := lv < lv' ∨ (lv = lv' ∧ (rk < rk' ∨ (rk = rk' ∧ n < n')))
theorem cfL_neg (lv rk n lv' rk' n' : Int) : cfL lv rk n lv' rk' n' < 0 ↔ befL lv rk n lv' rk' n' := by
  unfold cfL befL
  rcases cmpI_cases lv lv' with ⟨h1, e1⟩ | ⟨h1, e1⟩ | ⟨h1, e1⟩ <;> rcases cmpI_cases rk rk' with ⟨h2, e2⟩ | ⟨h2, e2⟩ | ⟨h2, e2⟩ <;> rcases cmpI_cases n n' with ⟨h3, e3⟩ | ⟨h3, e3⟩ | ⟨h3, e3⟩ <;> rw [e1, e2, e3] <;> simp [first0] <;> omega
def befR (x y : ((Int × Int × Int × Int × Int × Int × Int) × (Int × Int) × (Option Addr × Nat × List (Int × Int)) × Int)) : Prop := befL x.1.2.1 x.1.2.2.1 x.1.1 y.1.2.1 y.1.2.2.1 y.1.1
theorem ltR (x y : ((Int × Int × Int × Int × Int × Int × Int) × (Int × Int) × (Option Addr × Nat × List (Int × Int)) × Int)) : (ltOf cfR x y = true ↔ befR x y) ∧ (ltOf cfR x y = false ↔ ¬ befR x y) := by
  unfold ltOf cfR befR
  rw [decide_eq_true_eq, decide_eq_false_iff_not, cfL_neg]
  exact ⟨Iff.rfl, Iff.rfl⟩
theorem swoR : SWO (ltOf cfR) where
  irrefl x := by rw [(ltR x x).2]; unfold befR befL; omega
  trans x y z h1 h2 := by
    rw [(ltR _ _).1] at *
    unfold befR befL at *
    omega
  ntrans x y z h1 h2 := by
    rw [(ltR _ _).2] at *
    unfold befR befL at *
    omega

theorem infoRule : (Tryz.prog.info? 54).map (fun i => (i.zero, i.size, i.bytes)) = some (some (.agg #[.int .i64 0, .int .i64 0, .int .i64 0, .int .i64 0, .int .i64 0, .int .i64 0, .int .i64 0, .int .i64 0, .int .i64 0, .slice none 0 0, .int .i64 0]), 11, 104) := by kernel_rfl
theorem cmpLaysR (blk off size : Nat) (w : World) : CmpLays Tryz.prog 42 #[] encR 11 cfR blk off size w :=
  fun _ _ _ _ _ _ => ordCmp_any _ _ _ _ _ _ _ _ _ _ _ _ _ _ _ _ _ _ _ _ _ _ _ _ _ _ _
/-- The same rules, none of them before one that comes before it. -/
def OrdList (l o : List ((Int × Int × Int × Int × Int × Int × Int) × (Int × Int) × (Option Addr × Nat × List (Int × Int)) × Int)) : Prop := o.Perm l ∧ ∀ i j, i < j → j < o.length → ¬ befR (atR o j) (atR o i)
def OrdPost (w : World) (l : List ((Int × Int × Int × Int × Int × Int × Int) × (Int × Int) × (Option Addr × Nat × List (Int × Int)) × Int)) (e : Ending) (w' : World) : Prop :=
  ∃ (o : List ((Int × Int × Int × Int × Int × Int × Int) × (Int × Int) × (Option Addr × Nat × List (Int × Int)) × Int)) (A : Option Addr) (cap : Nat), e = .returned (.slice A o.length cap) ∧ OrdList l o ∧ Sl encR 11 w' w'.heap.size A o ∧ Below w.heap.size w w' ∧ ∀ b off i, A = some ⟨b, off, i⟩ → w.heap.size ≤ b
theorem sort_any (l : List ((Int × Int × Int × Int × Int × Int × Int) × (Int × Int) × (Option Addr × Nat × List (Int × Int)) × Int)) (g cap base : Nat) (w : World) (h : Own encR 11 54 w base (.slice (some ⟨g, 0, none⟩) l.length cap) l) (hl : l.length ≤ 1000) :
    Calls Tryz.prog 41 #[.slice (some ⟨g, 0, none⟩) l.length cap, .func (.func 42) #[] #[]] w fun e w' => e = .returned (.tuple #[]) ∧ ∃ o : List ((Int × Int × Int × Int × Int × Int × Int) × (Int × Int) × (Option Addr × Nat × List (Int × Int)) × Int), OrdList l o ∧ o.length = l.length ∧ Sl encR 11 w' w'.heap.size (some ⟨g, 0, none⟩) o ∧ w.grownBy w' (some g) := by
  have hg : g < w.heap.size := (h.lt g rfl).2
  have hH := holdsK_of_own lenR (by omega) h rfl
  have eg : ∀ args w, (callFunc 42 args).run Tryz.prog w = .ok (.enter 42 args) w := enters_of Tryz.func42 (by kernel_rfl) rfl
  have hcon := AnyQ.slices_SortFunc Tryz.sortRules 11 Tryz.isAgg54 Tryz.sizeOf54 encR lenR oneR cfR swoR 42 #[] g 0 cap l.toArray w eg (cmpLaysR g 0 l.toArray.size w) hH hg (by simp; omega)
  change Calls Tryz.prog 41 _ _ _ at hcon
  have e1 : l.toArray.size = l.length := by simp
  rw [e1] at hcon
  refine hcon.mono ?_
  rintro e w' ⟨rfl, d', n, os, ⟨hp1, _, hp3⟩, hs, rfl⟩
  have hsz : d'.size = l.toArray.size := hp1
  have hH2 := holdsK_sortWorldK_c encR 11 w g 0 l.toArray d' n os hH hg hsz
  have hgr := grownBy_sortK encR 11 w g n d' os
  have hlen : d'.toList.length = l.length := by rw [Array.length_toList, hsz]; simp
  refine ⟨rfl, d'.toList, ⟨?_, fun i j hij hj => ?_⟩, hlen, sl_of_holdsK lenR hH2 (Nat.lt_of_lt_of_le hg hgr.size), hgr⟩
  · have h1 : d'.extract 0 l.length = d' := by rw [show l.length = d'.size by rw [hsz]; simp]; simp
    have h2 : l.toArray.extract 0 l.length = l.toArray := by rw [show l.length = l.toArray.size by simp]; simp
    rw [h1, h2] at hp3
    simpa using hp3
  · have hj' : j < d'.size := by simpa using hj
    have h1 := hs i j (Nat.zero_le _) hij (by rw [← hlen]; exact hj)
    have k1 : d'[j]! = atR d'.toList j := by
      rw [getElem!_pos d' j hj', ← atR_eq hj]; simp
    have k2 : d'[i]! = atR d'.toList i := by
      rw [getElem!_pos d' i (by omega), ← atR_eq (show i < d'.toList.length by simp; omega)]; simp
    rw [k1, k2] at h1
    exact (ltR _ _).2.1 h1

theorem sort_none (A : Option Addr) (cap : Nat) (w : World) :
    Calls Tryz.prog 41 #[.slice A 0 cap, .func (.func 42) #[] #[]] w fun e w' => e = .returned (.tuple #[]) ∧ w = w' := by
  have hcon := AnyF.slices_SortFunc_none Tryz.sortRules A cap (.func (.func 42) #[] #[]) w
  change Calls Tryz.prog 41 _ _ _ at hcon
  exact hcon.mono fun e w' ⟨h1, h2⟩ => ⟨h1, h2.symm⟩

set_option maxHeartbeats 1600000 in
set_option maxRecDepth 100000 in
theorem ordered_any (l : List ((Int × Int × Int × Int × Int × Int × Int) × (Int × Int) × (Option Addr × Nat × List (Int × Int)) × Int)) (A : Option Addr) (cap : Nat) (w : World) (hL : Sl encR 11 w w.heap.size A l) (hl : l.length ≤ 1000) :
    Calls Tryz.prog 15 #[.slice A l.length cap] w (OrdPost w l) := by
  have O0 := Own.lit0 encR 11 54 w w.heap.size rfl (Nat.le_refl _)
  have D0 := hid ((Below.refl w.heap.size w).alloc (Nat.le_refl _) (.cells #[] 54))
  go_enter Tryz.func15, Tryz.ntmps15
  go_wp2_with (at_builtin; refine wpList_pushAny lenR oneR rfl (.tmp 4) (.tmp 5) _ rfl Tryz.underlying26 infoRule rfl (by omega) (by omega) rfl O0 (m := l) rfl rfl (hL.alloc (Nat.le_refl _) _) (by simp; omega) (by simp) ?_)
  intro v1 w1 h1 hg1
  have D1 := hid (below_row D0.out O0 (Nat.le_refl _) (by simp) hg1)
  have h2 : Own encR 11 54 w1 w.heap.size v1 l := by simpa using h1
  have hz1 := D1.out.size
  clear hg1 h1 O0 hL
  rcases h2.form with ⟨rfl, rfl⟩ | ⟨g, cap', rfl, hg1, hg2, _, _⟩
  · clear h2
    go_wp2_with (go_at_call 41; refine (sort_none _ _ _).mono ?_; rintro e w' ⟨rfl, rfl⟩)
    go_ret
    exact ⟨[], none, 0, rfl, ⟨List.Perm.refl _, fun i j _ hj => by simp at hj⟩, Sl.nil .., D1.out, fun _ _ _ h => by cases h⟩
  · go_wp2_with fail
    refine (sort_any l g cap' w.heap.size _ h2 hl).mono ?_
    rintro e w2 ⟨rfl, o, ho, hol, hs, hgr⟩
    have HO := hid ho
    have HOL := hid hol
    have HS := hid hs
    have D2 := hid (D1.out.grown hgr hz1 (fun k hk => by cases hk; exact hg1))
    clear ho hol hs hgr h2
    go_wp2
    go_ret
    exact ⟨o, some ⟨g, 0, none⟩, cap', show Ending.returned (.slice (some ⟨g, 0, none⟩) l.length cap') = _ by rw [HOL.out], HO.out, HS.out, D2.out, fun _ _ _ h => by cases h; exact hg1⟩

end Go.Proofs.YtkgofklpogdpmaaGreat
