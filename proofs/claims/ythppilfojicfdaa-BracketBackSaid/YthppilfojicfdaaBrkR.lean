/- Plain facts on brackets: a range alone in a bracket; what lacks to a bracket that ends too early. No program is in sight. -/
import Derived.Test.YthppilfojicfdaaBrkQ
namespace Go.Proofs.Ythppilfojicfdaa
open Go.RowKit SetP
namespace BrkP
theorem bt_app (s c : ByteArray) (k : Nat) : bt (s ++ c) (s.size + k) = bt c k := by
  have e : (s ++ c).data.toList = s.data.toList ++ c.data.toList := by rw [ByteArray.data_append, Array.toList_append]
  have hl : s.data.toList.length = s.size := by simp
  unfold bt
  rw [e, List.getD_eq_getElem?_getD, List.getD_eq_getElem?_getD, List.getElem?_append_right (by omega)]
  congr 2; omega
theorem bt_left (s c : ByteArray) (k : Nat) (h : k < s.size) : bt (s ++ c) k = bt s k := (alike_app s c).at_ k h
/-- A range that ends where all ends. -/
theorem loop_range {s : ByteArray} {i : Nat} {f : Nat → Bool} {lo hi : UInt8} (h4 : i + 4 = s.size) (b0 : bt s i = lo) (b1 : bt s (i + 1) = 45) (b2 : bt s (i + 2) = hi) (b3 : bt s (i + 3) = 93)
    (hl : (lo == 91) = false) (hh1 : (hi == 91) = false) (hh2 : (hi == 93) = false) :
    loopF s i i f = if hi.toNat < lo.toNat then .bad 4 (i + 3) else .go (i + 4) (fun x => f x || rangeF lo.toNat hi.toNat x) := by
  rw [loopF_step (by omega) (by simp)]
  unfold thingF
  rw [b0, if_neg (by rw [hl]; simp)]
  unfold spanF
  rw [if_neg (by omega), b1, if_neg (by decide), if_neg (by omega), b2, if_neg (by rw [hh2]; simp)]
  by_cases h : hi.toNat < lo.toNat
  · rw [if_pos h, if_pos h]
  · rw [if_neg h, if_neg h, if_neg (by rw [hh1]; simp), if_neg (by rw [hh1]; simp)]
    show loopF s i (i + 3) _ = _
    rw [lo_end (by omega) (by rw [b3]; rfl) (by omega)]
theorem place_one (A : ByteArray) (lo hi : UInt8) (hl : (lo == 91) = false) (hl2 : (lo == 94) = false) (hh1 : (hi == 91) = false) (hh2 : (hi == 93) = false) :
    readB (A ++ ⟨#[91, lo, 45, hi, 93]⟩) A.size = if hi.toNat < lo.toNat then ⟨fun _ => false, 0, 4, (A.size : Int) + 4⟩ else ⟨fun x => false || rangeF lo.toNat hi.toNat x, (A.size : Int) + 5, 0, 0⟩ := by
  have hz : (A ++ (⟨#[91, lo, 45, hi, 93]⟩ : ByteArray)).size = A.size + 5 := by rw [ByteArray.size_append]; rfl
  have b : ∀ k, bt (A ++ ⟨#[91, lo, 45, hi, 93]⟩) (A.size + k) = bt ⟨#[91, lo, 45, hi, 93]⟩ k := fun k => bt_app _ _ k
  unfold readB
  rw [if_neg (by rw [hz]; omega), Int.toNat_natCast]
  rw [show bt (A ++ ⟨#[91, lo, 45, hi, 93]⟩) A.size = 91 from b 0, if_neg (by decide), b 1, if_neg (by show ¬ (lo == 94) = true; rw [hl2]; simp)]
  rw [loop_range (lo := lo) (hi := hi) (by rw [hz]) (b 1) (b 2) (b 3) (b 4) hl hh1 hh2]
  split
  · rfl
  · rfl
theorem place_two (A : ByteArray) (lo hi : UInt8) (hl : (lo == 91) = false) (hh1 : (hi == 91) = false) (hh2 : (hi == 93) = false) :
    readB (A ++ ⟨#[91, 94, lo, 45, hi, 93]⟩) A.size = if hi.toNat < lo.toNat then ⟨fun _ => false, 0, 4, (A.size : Int) + 5⟩ else ⟨fun x => !(false || rangeF lo.toNat hi.toNat x), (A.size : Int) + 6, 0, 0⟩ := by
  have hz : (A ++ (⟨#[91, 94, lo, 45, hi, 93]⟩ : ByteArray)).size = A.size + 6 := by rw [ByteArray.size_append]; rfl
  have b : ∀ k, bt (A ++ ⟨#[91, 94, lo, 45, hi, 93]⟩) (A.size + k) = bt ⟨#[91, 94, lo, 45, hi, 93]⟩ k := fun k => bt_app _ _ k
  unfold readB
  rw [if_neg (by rw [hz]; omega), Int.toNat_natCast]
  rw [show bt (A ++ ⟨#[91, 94, lo, 45, hi, 93]⟩) A.size = 91 from b 0, if_neg (by decide), b 1, if_pos (by show ((94 : UInt8) == 94) = true; decide)]
  rw [loop_range (lo := lo) (hi := hi) (by rw [hz]) (b 2) (b 3) (b 4) (b 5) hl hh1 hh2]
  split
  · rfl
  · rfl

/-- All that may lack. -/
def endsL : List ByteArray := [⟨#[93]⟩, ⟨#[97, 93]⟩, ⟨#[93, 93]⟩, ⟨#[58, 93, 93]⟩] ++ (List.range 12).flatMap fun k => (List.range (nm k).size).map fun i => (nm k).extract i (nm k).size ++ ⟨#[58, 93, 93]⟩
theorem closeF_ext {s t : ByteArray} (h : Alike s.size s t) {a j : Nat} {f g : Nat → Bool} {i : Nat} (hw : closeF s a j f = .go i g) : closeF t a j f = .go i g := by
  have hj := closeF_go hw
  rw [closeF_alike h (by omega) (by rw [hw]; exact hj.2)]
  exact hw
theorem spanF_ext {s t : ByteArray} (h : Alike s.size s t) {i : Nat} {c : UInt8} {f g : Nat → Bool} {j : Nat} (hw : spanF s i f c = .go j g) : spanF t i f c = .go j g := by
  have h2 := h.ht
  unfold spanF at *
  by_cases k1 : s.size ≤ i + 1
  · rw [if_pos k1] at hw; cases hw
  rw [if_neg k1] at hw
  rw [if_neg (by omega), h.at_ _ (by omega)]
  by_cases k2 : (bt s (i + 1) != 45) = true
  · rw [if_pos k2] at hw ⊢; exact hw
  rw [if_neg k2] at hw ⊢
  by_cases k3 : s.size ≤ i + 2
  · rw [if_pos k3] at hw; cases hw
  rw [if_neg k3] at hw
  rw [if_neg (by omega), h.at_ _ (by omega)]
  by_cases k4 : (bt s (i + 2) == 93) = true
  · rw [if_pos k4] at hw ⊢; exact hw
  rw [if_neg k4] at hw ⊢
  by_cases k5 : (bt s (i + 2)).toNat < c.toNat
  · rw [if_pos k5] at hw; cases hw
  rw [if_neg k5] at hw ⊢
  by_cases k6 : (bt s (i + 2) == 91 && decide (s.size ≤ i + 3)) = true
  · rw [if_pos k6] at hw; cases hw
  rw [if_neg k6] at hw
  cases k7 : (bt s (i + 2) == 91) with
  | false =>
    rw [k7] at hw
    rw [if_neg (by simp), if_neg (by simp)]
    rw [if_neg (by simp)] at hw
    exact hw
  | true =>
    have k8 : i + 3 < s.size := by rw [k7] at k6; simp at k6; exact k6
    rw [k7] at hw
    rw [if_neg (by simp; omega), h.at_ _ k8]
    exact hw
theorem thingF_ext {s t : ByteArray} (h : Alike s.size s t) {i : Nat} {f g : Nat → Bool} {j : Nat} (hi : i < s.size) (hw : thingF s i f = .go j g) : thingF t i f = .go j g := by
  have h2 := h.ht
  unfold thingF at *
  rw [h.at_ _ hi]
  by_cases k0 : (bt s i == 91) = true
  · rw [if_pos k0] at hw ⊢
    by_cases k1 : s.size ≤ i + 1
    · rw [if_pos k1] at hw; cases hw
    rw [if_neg k1] at hw
    rw [if_neg (by omega), h.at_ _ (by omega)]
    by_cases k2 : (bt s (i + 1) == 58) = true
    · rw [if_pos k2] at hw ⊢
      rw [classGo_alike h _ (by rw [hw]; exact (classGo_go _ _ hw).2)]
      exact hw
    rw [if_neg k2] at hw ⊢
    by_cases k3 : marksB (bt s (i + 1)) = true
    · rw [if_pos k3] at hw; cases hw
    rw [if_neg k3] at hw ⊢
    exact spanF_ext h hw
  · rw [if_neg k0] at hw ⊢
    exact spanF_ext h hw

theorem nm_all : ((List.range 12).all fun k => (List.range ((nm k).size + 1)).all fun m => beginsF ((nm k).extract 0 m)) = true := by decide +kernel
theorem nm_colon : ((List.range 12).all fun k => (List.range (nm k).size).all fun m => !(bt (nm k) m == 58)) = true := by decide +kernel
theorem nm_cls : ((List.range 12).all fun k => clsOf (nm k) == some k) = true := by decide +kernel
theorem nm_begins {k m : Nat} (hk : k < 12) (hm : m ≤ (nm k).size) : beginsF ((nm k).extract 0 m) = true := by
  have := List.all_eq_true.1 nm_all k (by simpa using hk)
  exact List.all_eq_true.1 this m (by simp; omega)
theorem nm_nocolon {k m : Nat} (hk : k < 12) (hm : m < (nm k).size) : (bt (nm k) m == 58) = false := by
  have := List.all_eq_true.1 nm_colon k (by simpa using hk)
  have := List.all_eq_true.1 this m (by simpa using hm)
  simpa using this
theorem nm_clsOf {k : Nat} (hk : k < 12) : clsOf (nm k) = some k := by
  have := List.all_eq_true.1 nm_cls k (by simpa using hk)
  simpa using this
theorem extract_at {s : ByteArray} {a b : Nat} {m : ByteArray} (h : s.extract a b = m) (k : Nat) (hk : k < m.size) : bt s (a + k) = bt m k := by
  subst h
  have hz : (s.extract a b).size = min b s.size - a := by simp
  unfold bt
  rw [extract_list, List.getD_eq_getElem?_getD, List.getD_eq_getElem?_getD, List.getElem?_drop, List.getElem?_take, if_pos (by omega)]
/-- Where a class's name stands, with a colon and an end behind it, it is read. -/
theorem classGo_name {t : ByteArray} {a k : Nat} {f : Nat → Bool} (hk : k < 12) (he : t.extract a (a + (nm k).size) = nm k) (hz : a + (nm k).size + 2 ≤ t.size)
    (h1 : bt t (a + (nm k).size) = 58) (h2 : bt t (a + (nm k).size + 1) = 93) (d : Nat) (hd : d ≤ (nm k).size) : classGo t a f (a + ((nm k).size - d)) = .go (a + (nm k).size + 2) (fun x => f x || cls k x) := by
  induction d with
  | zero =>
    rw [Nat.sub_zero, cg_close (by omega) (by rw [h1]; rfl)]
    unfold closeF
    rw [he, nm_clsOf hk]
    simp only
    rw [if_neg (by omega), h2, if_pos (by rfl)]
  | succ d ih =>
    have hb : bt t (a + ((nm k).size - (d + 1))) = bt (nm k) ((nm k).size - (d + 1)) := extract_at he _ (by omega)
    have hx : t.extract a (a + ((nm k).size - (d + 1)) + 1) = (nm k).extract 0 ((nm k).size - d) := by
      apply bytes_ext
      have e := congrArg (fun b : ByteArray => b.data.toList.take ((nm k).size - d)) he
      simp only [extract_list] at e
      rw [extract_list, extract_list, List.drop_zero, ← e, List.take_drop, List.take_take]
      congr 2; omega
    rw [cg_on (by omega) (by rw [hb]; exact nm_nocolon hk (by omega)) (by rw [hx]; exact nm_begins hk (by omega))]
    have := ih (by omega)
    rwa [show a + ((nm k).size - (d + 1)) + 1 = a + ((nm k).size - d) by omega]
theorem mem_ends {k m : Nat} (hk : k < 12) (hm : m ≤ (nm k).size) : (nm k).extract m (nm k).size ++ ⟨#[58, 93, 93]⟩ ∈ endsL := by
  unfold endsL
  by_cases h : m < (nm k).size
  · refine List.mem_append_right _ (List.mem_flatMap.2 ⟨k, by simpa using hk, List.mem_map.2 ⟨m, by simpa using h, rfl⟩⟩)
  · have hm' : m = (nm k).size := by omega
    have e : (nm k).extract m (nm k).size ++ ⟨#[58, 93, 93]⟩ = (⟨#[58, 93, 93]⟩ : ByteArray) := by
      apply bytes_ext
      rw [ByteArray.data_append, Array.toList_append, extract_list, hm', List.drop_eq_nil_of_le (by rw [List.length_take]; omega)]; rfl
    rw [e]
    simp
theorem prefix_of {P : ByteArray} (h : beginsF P = true) : ∃ k, k < 12 ∧ P.size ≤ (nm k).size ∧ (nm k).extract 0 P.size = P := by
  unfold beginsF at h
  obtain ⟨k, hk, hh⟩ := List.any_eq_true.1 h
  unfold hpF at hh
  simp only [Bool.and_eq_true, decide_eq_true_eq, beq_iff_eq] at hh
  refine ⟨k, by simpa using hk, hh.1, ?_⟩
  have e := hh.2
  rw [ByteArray.toList_eq, ByteArray.toList_eq] at e
  exact bytes_ext e
theorem classGo_lack {s : ByteArray} {a : Nat} {f : Nat → Bool} (ha : a ≤ s.size) (j : Nat) (haj : a ≤ j) (hj : j ≤ s.size) (hp : j = a ∨ beginsF (s.extract a j) = true) (hs : classGo s a f j = .bad 2 s.size) :
    ∃ c ∈ endsL, ∃ g, classGo (s ++ c) a f j = .go (s.size + c.size - 1) g ∧ bt (s ++ c) (s.size + c.size - 1) = 93 ∧ 1 ≤ c.size := by
  induction hn : s.size - j using Nat.strongRecOn generalizing j with
  | _ n ih =>
    by_cases hj' : s.size ≤ j
    · have hjs : j = s.size := by omega
      subst hjs
      obtain ⟨k, hk, hle, hex⟩ : ∃ k, k < 12 ∧ s.size - a ≤ (nm k).size ∧ (nm k).extract 0 (s.size - a) = s.extract a s.size := by
        rcases hp with hp | hp
        · refine ⟨0, by decide, by omega, ?_⟩
          apply bytes_ext
          rw [extract_list, extract_list, show s.size - a = 0 by omega, ← hp]
          have e : (List.take s.size s.data.toList).drop s.size = [] := List.drop_eq_nil_of_le (by rw [List.length_take]; omega)
          rw [e]; rfl
        · obtain ⟨k, hk, h1, h2⟩ := prefix_of hp
          have hz : (s.extract a s.size).size = s.size - a := by simp
          rw [hz] at h1 h2
          exact ⟨k, hk, h1, h2⟩
      let c : ByteArray := (nm k).extract (s.size - a) (nm k).size ++ ⟨#[58, 93, 93]⟩
      have hc : c = (nm k).extract (s.size - a) (nm k).size ++ ⟨#[58, 93, 93]⟩ := rfl
      have hx : ((nm k).extract (s.size - a) (nm k).size).size = (nm k).size - (s.size - a) := by simp
      have hcz : c.size = (nm k).size - (s.size - a) + 3 := by rw [hc, ByteArray.size_append, hx]; rfl
      refine ⟨c, mem_ends hk hle, ?_⟩
      have htz : (s ++ c).size = s.size + c.size := ByteArray.size_append
      have hnm : (s ++ c).extract a (a + (nm k).size) = nm k := by
        apply bytes_ext
        have e1 : (s ++ c).data.toList = s.data.toList ++ ((nm k).data.toList.drop (s.size - a) ++ [58, 93, 93]) := by
          rw [ByteArray.data_append, Array.toList_append, hc, ByteArray.data_append, Array.toList_append, extract_list, List.take_of_length_le (l := (nm k).data.toList) (by simp)]
        have e2 := congrArg (fun b : ByteArray => b.data.toList) hex
        simp only [extract_list, List.drop_zero] at e2
        have hl : s.data.toList.length = s.size := by simp
        have hln : (nm k).data.toList.length = (nm k).size := by simp
        rw [List.take_of_length_le (l := s.data.toList) (by omega)] at e2
        rw [extract_list, e1, List.take_append, List.drop_append, List.take_of_length_le (l := s.data.toList) (by omega), ← e2, hl]
        rw [show a - s.size = 0 by omega, List.drop_zero, List.take_append, List.length_drop, hln]
        rw [List.take_of_length_le (l := List.drop (s.size - a) (nm k).data.toList) (by rw [List.length_drop]; omega)]
        rw [show a + (nm k).size - s.size - ((nm k).size - (s.size - a)) = 0 by omega, List.take_zero, List.append_nil, List.take_append_drop]
      have b : ∀ m, bt (s ++ c) (s.size + ((nm k).size - (s.size - a)) + m) = bt ⟨#[58, 93, 93]⟩ m := by
        intro m
        rw [Nat.add_assoc, bt_app, hc, ← hx, bt_app]
      have g1 : s.size + ((nm k).size - (s.size - a)) = a + (nm k).size := by omega
      rw [g1] at b
      have := classGo_name (t := s ++ c) (a := a) (f := f) hk hnm (by rw [htz, hcz]; omega) (b 0) (b 1) ((nm k).size - (s.size - a)) (by omega)
      rw [show a + ((nm k).size - ((nm k).size - (s.size - a))) = s.size by omega] at this
      refine ⟨_, by rw [this, hcz]; congr 1; omega, ?_, by omega⟩
      rw [show s.size + c.size - 1 = a + (nm k).size + 2 by rw [hcz]; omega]
      exact b 2
    · have hj2 : j < s.size := by omega
      cases hb : (bt s j == 58) with
      | true =>
        rw [cg_close hj2 hb] at hs
        unfold closeF at hs
        cases hc : clsOf (s.extract a j) with
        | none => rw [hc] at hs; cases hs
        | some k =>
          rw [hc] at hs
          simp only at hs
          by_cases k1 : s.size ≤ j + 1
          · refine ⟨⟨#[93, 93]⟩, by unfold endsL; simp, fun x => f x || cls k x, ?_, ?_, by decide⟩
            · have hA := alike_app s ⟨#[93, 93]⟩
              have hz : (s ++ (⟨#[93, 93]⟩ : ByteArray)).size = s.size + 2 := ByteArray.size_append
              rw [cg_close (by omega) (by rw [hA.at_ j hj2]; exact hb)]
              unfold closeF
              rw [hA.ex a j (by omega), hc]
              simp only
              rw [if_neg (by omega), show j + 1 = s.size + 0 by omega, bt_app, if_pos (by rfl)]
              congr 1; show j + 2 = s.size + 2 - 1; omega
            · exact bt_app s ⟨#[93, 93]⟩ 1
          · rw [if_neg k1] at hs
            split at hs
            · cases hs
            · cases hs
      | false =>
      cases hg : beginsF (s.extract a (j + 1)) with
      | true =>
        rw [cg_on hj2 hb hg] at hs
        obtain ⟨c, hc, g, h1, h2, h3⟩ := ih (s.size - (j + 1)) (by omega) (j + 1) (by omega) (by omega) (.inr hg) hs rfl
        have hA := alike_app s c
        have := hA.ht
        exact ⟨c, hc, g, by rw [cg_on (by omega) (by rw [hA.at_ j hj2]; exact hb) (by rw [hA.ex a (j + 1) (by omega)]; exact hg)]; exact h1, h2, h3⟩
      | false => rw [cg_bad hj2 hb hg] at hs; cases hs
theorem thingF_one {t : ByteArray} {i : Nat} {f : Nat → Bool} (h1 : i + 1 < t.size) (hb : bt t (i + 1) = 93) : thingF t i f = .go (i + 1) (addB f (bt t i).toNat) := by
  have hs : ∀ c, spanF t i f c = .go (i + 1) (addB f c.toNat) := fun c => by unfold spanF; rw [if_neg (by omega), hb, if_pos (by decide)]
  unfold thingF
  by_cases k0 : (bt t i == 91) = true
  · have e : bt t i = 91 := by simpa using k0
    rw [if_pos k0, if_neg (by omega), hb, if_neg (by decide), if_neg (by decide), hs, e]
  · rw [if_neg k0, hs]
theorem loopF_lack {s : ByteArray} {first : Nat} (i : Nat) (hf : first ≤ i) (hi : i ≤ s.size) (hne : first < s.size) (f : Nat → Bool) (hs : loopF s first i f = .bad 2 s.size) :
    ∃ c ∈ endsL, ∃ g, loopF (s ++ c) first i f = .go (s.size + c.size) g := by
  induction hn : s.size - i using Nat.strongRecOn generalizing i f with
  | _ n ih =>
    have close : ∀ (c : ByteArray), Alike s.size s (s ++ c) := alike_app s
    have hz1 : (s ++ (⟨#[93]⟩ : ByteArray)).size = s.size + 1 := ByteArray.size_append
    have b1 : bt (s ++ (⟨#[93]⟩ : ByteArray)) s.size = 93 := bt_app s ⟨#[93]⟩ 0
    have m1 : (⟨#[93]⟩ : ByteArray) ∈ endsL := by unfold endsL; simp
    have A1 := close ⟨#[93]⟩
    by_cases hi' : s.size ≤ i
    · have hje : i = s.size := by omega
      subst hje
      exact ⟨⟨#[93]⟩, m1, f, by rw [lo_end (by omega) (by rw [b1]; rfl) hne]; rfl⟩
    have hi2 : i < s.size := by omega
    cases he : (bt s i == 93 && decide (first < i)) with
    | true =>
      simp only [Bool.and_eq_true, decide_eq_true_eq] at he
      rw [lo_end hi2 he.1 he.2] at hs; cases hs
    | false =>
    rw [loopF_step hi2 he] at hs
    have stepT : ∀ c, loopF (s ++ c) first i f = match thingF (s ++ c) i f with | .bad e p => .bad e p | .go i' f' => loopF (s ++ c) first i' f' := fun c =>
      loopF_step (by have := (close c).ht; omega) (by rw [(close c).at_ i hi2]; exact he)
    cases hq : thingF s i f with
    | go i' f' =>
      rw [hq] at hs
      obtain ⟨g1, g2⟩ := thingF_go hq
      obtain ⟨c, hc, g, h⟩ := ih (s.size - i') (by omega) i' (by omega) g2 f' hs rfl
      exact ⟨c, hc, g, by rw [stepT, thingF_ext (close c) hi2 hq]; exact h⟩
    | bad e p =>
      rw [hq] at hs
      simp only [Res.bad.injEq] at hs
      obtain ⟨rfl, rfl⟩ := hs
      -- the byte is the last one
      have last : s.size = i + 1 → ∃ c ∈ endsL, ∃ g, loopF (s ++ c) first i f = .go (s.size + c.size) g := fun h => by
        refine ⟨⟨#[93]⟩, m1, addB f (bt (s ++ (⟨#[93]⟩ : ByteArray)) i).toNat, ?_⟩
        rw [stepT, thingF_one (by omega) (by rw [← h]; exact b1)]
        show loopF _ first (i + 1) _ = _
        rw [lo_end (by omega) (by rw [← h, b1]; rfl) (by omega), h]; rfl
      have span : ∀ c, (∀ k, k < s.size → bt (s ++ (⟨#[93]⟩ : ByteArray)) k = bt s k) → spanF s i f c = .bad 2 s.size → i + 1 < s.size →
          (thingF (s ++ (⟨#[93]⟩ : ByteArray)) i f = spanF (s ++ (⟨#[93]⟩ : ByteArray)) i f c) → ∃ c ∈ endsL, ∃ g, loopF (s ++ c) first i f = .go (s.size + c.size) g := by
        intro c hb hsp k1 hth
        unfold spanF at hsp
        rw [if_neg (by omega)] at hsp
        by_cases k2 : (bt s (i + 1) != 45) = true
        · rw [if_pos k2] at hsp; cases hsp
        rw [if_neg k2] at hsp
        have e45 : bt s (i + 1) = 45 := by simpa using k2
        by_cases k3 : s.size ≤ i + 2
        · have h : s.size = i + 2 := by omega
          have e1 : spanF (s ++ (⟨#[93]⟩ : ByteArray)) i f c = .go (i + 1) (addB f c.toNat) := by
            unfold spanF
            rw [if_neg (by omega), hb _ k1, if_neg k2, if_neg (by omega), ← h, b1, if_pos (by rfl)]
          refine ⟨⟨#[93]⟩, m1, addB (addB f c.toNat) (bt (s ++ (⟨#[93]⟩ : ByteArray)) (i + 1)).toNat, ?_⟩
          rw [stepT, hth, e1]
          show loopF _ first (i + 1) _ = _
          rw [loopF_step (by omega) (by rw [hb _ k1, e45]; rfl), thingF_one (by omega) (by rw [← h]; exact b1)]
          show loopF _ first (i + 2) _ = _
          rw [lo_end (by omega) (by rw [← h, b1]; rfl) (by omega), h]; rfl
        rw [if_neg k3] at hsp
        by_cases k4 : (bt s (i + 2) == 93) = true
        · rw [if_pos k4] at hsp; cases hsp
        rw [if_neg k4] at hsp
        by_cases k5 : (bt s (i + 2)).toNat < c.toNat
        · rw [if_pos k5] at hsp; cases hsp
        rw [if_neg k5] at hsp
        by_cases k6 : (bt s (i + 2) == 91 && decide (s.size ≤ i + 3)) = true
        · simp only [Bool.and_eq_true, decide_eq_true_eq] at k6
          have h : s.size = i + 3 := by omega
          refine ⟨⟨#[93]⟩, m1, fun x => f x || rangeF c.toNat (bt s (i + 2)).toNat x, ?_⟩
          have e1 : spanF (s ++ (⟨#[93]⟩ : ByteArray)) i f c = .go (i + 3) (fun x => f x || rangeF c.toNat (bt s (i + 2)).toNat x) := by
            unfold spanF
            rw [if_neg (by omega), hb _ k1, if_neg k2, if_neg (by omega), hb _ (by omega), if_neg k4, if_neg k5, if_neg (by rw [decide_eq_false (by omega)]; simp), ← h, b1, if_neg (by rw [show marksB 93 = false from rfl]; simp)]
          rw [stepT, hth, e1]
          show loopF _ first (i + 3) _ = _
          rw [lo_end (by omega) (by rw [← h, b1]; rfl) (by omega), h]; rfl
        rw [if_neg k6] at hsp
        split at hsp
        · cases hsp
        · cases hsp
      by_cases k1 : s.size ≤ i + 1
      · exact last (by omega)
      have k1' : i + 1 < s.size := by omega
      have hb : ∀ k, k < s.size → bt (s ++ (⟨#[93]⟩ : ByteArray)) k = bt s k := A1.at_
      unfold thingF at hq
      by_cases k0 : (bt s i == 91) = true
      · rw [if_pos k0, if_neg k1] at hq
        by_cases k2 : (bt s (i + 1) == 58) = true
        · rw [if_pos k2] at hq
          obtain ⟨c, hc, g, h1, h2, h3⟩ := classGo_lack (by omega) (i + 2) (Nat.le_refl _) (by omega) (.inl rfl) hq
          refine ⟨c, hc, g, ?_⟩
          have hA := close c
          have hz := ByteArray.size_append (a := s) (b := c)
          rw [stepT]
          have : thingF (s ++ c) i f = .go (s.size + c.size - 1) g := by
            unfold thingF
            rw [hA.at_ i hi2, if_pos k0, if_neg (by omega), hA.at_ _ k1', if_pos k2]
            exact h1
          rw [this]
          show loopF _ first (s.size + c.size - 1) _ = _
          rw [lo_end (by omega) (by rw [h2]; rfl) (by omega)]
          congr 1; omega
        rw [if_neg k2] at hq
        by_cases k3 : marksB (bt s (i + 1)) = true
        · rw [if_pos k3] at hq; cases hq
        rw [if_neg k3] at hq
        refine span 91 hb hq k1' ?_
        unfold thingF
        rw [hb i hi2, if_pos k0, if_neg (by omega), hb _ k1', if_neg k2, if_neg k3]
      · rw [if_neg k0] at hq
        refine span _ hb hq k1' ?_
        unfold thingF
        rw [hb i hi2, if_neg k0]
/-- To a bracket that ends too early one of the endings lacks. -/
theorem readB_lack (s : ByteArray) (a : Int) (hs : (readB s a).err = 2) : ∃ c ∈ endsL, (readB (s ++ c) a).err = 0 ∧ (readB (s ++ c) a).stop = ((s.size + c.size : Nat) : Int) := by
  by_cases h0 : a < 0 ∨ (s.size : Int) ≤ a
  · unfold readB at hs; rw [if_pos h0] at hs; cases hs
  by_cases h1 : (bt s a.toNat != 91) = true
  · unfold readB at hs; rw [if_neg h0, if_pos h1] at hs; cases hs
  have hk : a.toNat < s.size := by omega
  have key : ∀ (b : Bool) (R : Res) (i : Nat), Fits i s.size R → (ansOf b R).err = 2 → R = .bad 2 s.size := by
    intro b R i hfit he
    cases R with
    | go j f => cases he
    | bad e p =>
      rcases hfit with ⟨rfl, rfl⟩ | ⟨hh, k1, k2⟩
      · rfl
      · have : e = 2 := he
        omega
  have app : ∀ c : ByteArray, readB (s ++ c) a = if bt (s ++ c) (a.toNat + 1) == 94 then ansOf true (loopF (s ++ c) (a.toNat + 2) (a.toNat + 2) (fun _ => false)) else ansOf false (loopF (s ++ c) (a.toNat + 1) (a.toNat + 1) (fun _ => false)) := by
    intro c
    have hA := alike_app s c
    have := hA.ht
    unfold readB
    rw [if_neg (by omega), hA.at_ _ hk, if_neg h1]
  -- nothing behind the begin: a byte and an end lack
  have fresh : ∀ (t : ByteArray) (k : Nat), t.size = k + 2 → bt t k = 97 → bt t (k + 1) = 93 → loopF t k k (fun _ => false) = .go (k + 2) (addB (fun _ => false) 97) := by
    intro t k hz hb0 hb1
    rw [loopF_step (by omega) (by simp), thingF_one (by omega) hb1, hb0]
    show loopF t k (k + 1) _ = _
    rw [lo_end (by omega) (by rw [hb1]; rfl) (by omega)]; rfl
  have m2 : (⟨#[97, 93]⟩ : ByteArray) ∈ endsL := by unfold endsL; simp
  have hz2 : (s ++ (⟨#[97, 93]⟩ : ByteArray)).size = s.size + 2 := ByteArray.size_append
  by_cases hl : s.size = a.toNat + 1
  · refine ⟨⟨#[97, 93]⟩, m2, ?_⟩
    have c0 : bt (s ++ (⟨#[97, 93]⟩ : ByteArray)) (a.toNat + 1) = 97 := by rw [← hl]; exact bt_app s ⟨#[97, 93]⟩ 0
    have c1 : bt (s ++ (⟨#[97, 93]⟩ : ByteArray)) (a.toNat + 1 + 1) = 93 := by rw [← hl]; exact bt_app s ⟨#[97, 93]⟩ 1
    rw [app, c0, if_neg (by decide), fresh _ _ (by omega) c0 c1]
    exact ⟨rfl, by show ((a.toNat + 1 + 2 : Nat) : Int) = ((s.size + 2 : Nat) : Int); omega⟩
  by_cases h2 : (bt s (a.toNat + 1) == 94) = true
  · have e : readB s a = ansOf true (loopF s (a.toNat + 2) (a.toNat + 2) (fun _ => false)) := by unfold readB; rw [if_neg h0, if_neg h1, if_pos h2]
    rw [e] at hs
    have hR := key _ _ _ (loopF_fits _ _) hs
    by_cases hl2 : s.size = a.toNat + 2
    · refine ⟨⟨#[97, 93]⟩, m2, ?_⟩
      have c0 : bt (s ++ (⟨#[97, 93]⟩ : ByteArray)) (a.toNat + 2) = 97 := by rw [← hl2]; exact bt_app s ⟨#[97, 93]⟩ 0
      have c1 : bt (s ++ (⟨#[97, 93]⟩ : ByteArray)) (a.toNat + 2 + 1) = 93 := by rw [← hl2]; exact bt_app s ⟨#[97, 93]⟩ 1
      rw [app, bt_left _ _ _ (by omega), if_pos h2, fresh _ _ (by omega) c0 c1]
      exact ⟨rfl, by show ((a.toNat + 2 + 2 : Nat) : Int) = ((s.size + 2 : Nat) : Int); omega⟩
    · obtain ⟨c, hc, g, h⟩ := loopF_lack (a.toNat + 2) (Nat.le_refl _) (by omega) (by omega) _ hR
      refine ⟨c, hc, ?_⟩
      rw [app, bt_left _ _ _ (by omega), if_pos h2, h]
      exact ⟨rfl, rfl⟩
  · have e : readB s a = ansOf false (loopF s (a.toNat + 1) (a.toNat + 1) (fun _ => false)) := by unfold readB; rw [if_neg h0, if_neg h1, if_neg h2]
    rw [e] at hs
    have hR := key _ _ _ (loopF_fits _ _) hs
    obtain ⟨c, hc, g, h⟩ := loopF_lack (a.toNat + 1) (Nat.le_refl _) (by omega) (by omega) _ hR
    refine ⟨c, hc, ?_⟩
    rw [app, bt_left _ _ _ (by omega), if_neg h2, h]
    exact ⟨rfl, rfl⟩
end BrkP
end Go.Proofs.Ythppilfojicfdaa
