/- Walks of the packages ast and gimletref06: each node's size. -/
import Derived.Test.YtgkfdjfoakbibaaProg
import Derived.WalkKit
import Derived.WalkSpells
import Derived.WalkLawsBesides
import Derived.Handy
import Derived.Lib.Hide
import Derived.Test.YtgkfdjfoakbibaaAstA
namespace Go.Proofs.Ytgkfdjfoakbibaa
open Go.RowKit SetP AstP
abbrev ints (l : List Nat) : List Value := l.map fun x : Nat => Value.int .i64 (x : Int)
theorem info_int : (Try.prog.info? 3).map (fun i => (i.zero, i.size, i.bytes)) = some (some (.int .i64 0), 1, 8) := by kernel_rfl
theorem rowInts {w : World} {base n c : Nat} {A : Option Addr} {l : List Nat} (h : w.ownsRow base 3 1 (.slice A n c) n (ints l)) :
    (A = none ∧ n = 0 ∧ c = 0) ∨ ∃ g, A = some ⟨g, 0, none⟩ ∧ base ≤ g ∧ n ≤ c ∧ ∀ j, j < n → w.cell? ⟨g, j, none⟩ = some (.int .i64 ((l.getD j 0 : Nat) : Int)) := by
  have hl : l.length = n := by have := h.1; simpa using this
  rcases h.2 with ⟨hv, rfl⟩ | ⟨g, cap, cur, hv, hg, hh, hc, hx, hs, ht⟩
  · cases hv; exact .inl ⟨rfl, rfl, rfl⟩
  · cases hv
    refine .inr ⟨g, rfl, hg, hc, fun j hj => ?_⟩
    have hS : Slab w g cur 3 := hh
    rw [hS.cell]
    have e : cur.toList[j]? = (ints l)[j]? := by rw [← ht, List.getElem?_take_of_lt (by omega)]
    rw [← Array.getElem?_toList, e, List.getElem?_map, List.getD_eq_getElem?_getD, List.getElem?_eq_getElem (by omega)]
    rfl
theorem row_len {w : World} {base n c : Nat} {A : Option Addr} {l : List Nat} (h : w.ownsRow base 3 1 (.slice A n c) n (ints l)) : l.length = n := by
  have := h.1; simpa using this
/-- The last ones of what stands, the deepest first. -/
def lastF (st : List Nat) (kn : Nat) : List Nat := (st.take kn).reverse
theorem lastF_getD {st : List Nat} {kn cut j : Nat} (h : st.length = cut + kn) (hj : j < kn) : st.reverse.getD (cut + j) 0 = (lastF st kn).getD j 0 := by
  have e : st.reverse = (st.drop kn).reverse ++ lastF st kn := by unfold lastF; rw [← List.reverse_append, List.take_append_drop]
  have hl : (st.drop kn).reverse.length = cut := by simp; omega
  rw [List.getD_eq_getElem?_getD, List.getD_eq_getElem?_getD, e, List.getElem?_append_right (by omega), hl]
  congr 2; omega
theorem lastF_sum (st : List Nat) (kn : Nat) : (lastF st kn).sum = (st.take kn).sum := by unfold lastF; rw [List.sum_reverse]
theorem sum_take_succ {l : List Nat} {j : Nat} (h : j < l.length) : (l.take (j + 1)).sum = (l.take j).sum + l.getD j 0 := by
  rw [List.take_add_one, List.sum_append, List.getElem?_eq_getElem h, List.getD_eq_getElem?_getD, List.getElem?_eq_getElem h]
  simp
theorem sum_take_le {l : List Nat} (j : Nat) : (l.take j).sum ≤ l.sum := by
  have : (l.take j).sum + (l.drop j).sum = l.sum := by rw [← List.sum_append, List.take_append_drop]
  omega
theorem ints_take (l : List Nat) (n : Nat) : (ints l).take (n * 1) = ints (l.take n) := by rw [Nat.mul_one]; simp
theorem rev_take {st : List Nat} {cut kn : Nat} (h : st.length = cut + kn) : st.reverse.take cut = (st.drop kn).reverse := by
  have e : st.reverse = (st.drop kn).reverse ++ lastF st kn := by unfold lastF; rw [← List.reverse_append, List.take_append_drop]
  rw [e, List.take_append_of_le_length (by simp; omega), List.take_of_length_le (by simp; omega)]
set_option maxRecDepth 100000 in
set_option maxHeartbeats 2000000 in
theorem sizes_any (A : Option Addr) (c : Nat) (L : List Nd) (w : World) (hL : NodesAt w w.heap.size A L) :
    Calls Try.prog 27 #[.slice A L.length c] w (RetRow 3 1 (sizesF L).length (ints (sizesF L)) w) := by
  obtain ⟨i0, hi, hz0, hz1, hz2⟩ := info_parts info_int
  have HI := Lib.hid hi; clear hi
  have HZ0 := Lib.hid hz0; clear hz0
  have HZ1 := Lib.hid hz1; clear hz1
  have HZ2 := Lib.hid hz2; clear hz2
  have hlen := hL.1
  have CF := formed_any A c L w hL
  have HL := Lib.hid hL; clear hL
  cases hF : formedF L with
  | false =>
    rw [hF] at CF
    rw [sizesF_not hF]
    go_enter Try.func27, Try.ntmps27
    go_wp2_with fail
    refine CF.mono ?_
    rintro e1 w1 ⟨rfl, hb1⟩
    go_wp2
    go_ret
    exact ⟨none, 0, rfl, World.ownsRow_nil _ _ _ _, hb1⟩
  | true =>
  rw [hF] at CF
  rw [sizesF_formed hF]
  have HF := Lib.hid hF; clear hF
  obtain ⟨N, hN⟩ : ∃ N, L.length = N := ⟨_, rfl⟩
  rw [hN] at hlen CF
  have HN := Lib.hid hN
  rw [Sz_length (Nat.le_refl _), hN]
  clear hN
  go_enter Try.func27, Try.ntmps27
  go_wp2_with fail
  refine CF.mono ?_
  rintro e1 w1 ⟨rfl, hb1⟩
  have HB1 := Lib.hid hb1; clear hb1
  clear CF
  go_wp2
  go_loopw [3, 4, 16] (fun o s i wr => ∃ (k : Nat) (A3 A4 : Option Addr) (c3 c4 : Nat), k ≤ N ∧ i = .int .i64 k ∧ o = .slice A3 k c3 ∧ s = .slice A4 (St L k).length c4 ∧
      wr.ownsRow w.heap.size 3 1 (.slice A3 k c3) k (ints (Sz L k)) ∧ wr.ownsRow w.heap.size 3 1 (.slice A4 (St L k).length c4) (St L k).length (ints (St L k).reverse) ∧ Apart (.slice A4 (St L k).length c4) (.slice A3 k c3) ∧ Below w.heap.size w wr)
    (fun _ _ i _ => N - (intOf i).toNat)
  case atStart => exact ⟨0, none, none, 0, 0, by omega, rfl, rfl, rfl, World.ownsRow_nil w1 _ _ _, World.ownsRow_nil w1 _ _ _, (fun k hk => by cases hk), HB1.out⟩
  case round =>
    clear HB1
    obtain ⟨k, A3, A4, c3, c4, hk, rfl, rfl, rfl, hown3, hown4, hap, hB⟩ := hrel
    have HB := Lib.hid hB; clear hB
    by_cases hlt : k < N
    · have hltL : k < L.length := by rw [HN.out]; exact hlt
      obtain ⟨b, off, rfl, hb, hn8⟩ := (HL.out.below HB.out).node hltL
      unfold Node8 at hn8
      obtain ⟨x, hx⟩ : ∃ x, L.getD k ndEmpty = x := ⟨_, rfl⟩
      rw [hx] at hn8
      have HX := Lib.hid hx; clear hx
      obtain ⟨n0, n1, n2, n3, n4, n5, n6, n7⟩ := hn8
      have hat := formed_at HF.out hltL
      rw [HX.out] at hat
      obtain ⟨kn, hkn⟩ := Int.eq_ofNat_of_zero_le hat.1
      have HK : Hid (x.kids.toNat = kn) := Lib.hid (by omega)
      have hkl : kn ≤ (St L k).length := by omega
      have hsize := sizeAt_le (L := L) (k := k) (by omega)
      unfold sizeAt at hsize
      rw [HX.out, HK.out] at hsize
      have hsA : sizeAt L k = 1 + ((St L k).take kn).sum := by unfold sizeAt; rw [HX.out, HK.out]
      have HSA := Lib.hid hsA; clear hsA
      obtain ⟨M, hM⟩ : ∃ M, (St L k).length = M := ⟨_, rfl⟩
      rw [hM] at hown4 hap hkl hat ⊢
      have hMk : M ≤ k := by
        have h1 := St_chain (L := L) (k := k) (by omega)
        have : ∀ (st : List Nat) (a : Nat), ChainF (Sz L k) a st → st.length ≤ a := by
          intro st
          induction st with
          | nil => intro a _; simp
          | cons s st ih => intro a h; obtain ⟨p1, p2, _, p4⟩ := h; have := ih _ p4; simp; omega
        have := this _ _ h1; omega
      have HM := Lib.hid hM; clear hM
      obtain ⟨cut, hcut⟩ : ∃ cut, M = cut + kn := ⟨M - kn, by omega⟩
      have x0 : wrap64 ((M : Int) - (kn : Int)) = (cut : Int) := by unfold wrap64; omega
      have x1 : M - cut = kn := by omega
      have x2 : cut ≤ M := by omega
      have hcap : M ≤ c4 := by
        rcases rowInts hown4 with ⟨_, h, h'⟩ | ⟨_, _, _, h, _⟩ <;> omega
      have x3 : cut ≤ c4 := by omega
      have hcut4 : (wr.alloc (.cells #[.int .i64 x.kind, .int .i64 (kn : Int), .int .i64 x.n, .int .i64 x.m, .int .u64 (wd x.set 0), .int .u64 (wd x.set 1), .int .u64 (wd x.set 2), .int .u64 (wd x.set 3)] 48)).ownsRow w.heap.size 3 1 (.slice A4 cut c4) cut (ints ((St L k).drop kn).reverse) := by
        have h := (row_cut hown4 (m := cut) (by omega)).alloc (.cells #[.int .i64 x.kind, .int .i64 (kn : Int), .int .i64 x.n, .int .i64 x.m, .int .u64 (wd x.set 0), .int .u64 (wd x.set 1), .int .u64 (wd x.set 2), .int .u64 (wd x.set 3)] 48)
        rwa [ints_take, rev_take (by rw [HM.out]; exact hcut)] at h
      have hown3' := hown3.alloc (.cells #[.int .i64 x.kind, .int .i64 (kn : Int), .int .i64 x.n, .int .i64 x.m, .int .u64 (wd x.set 0), .int .u64 (wd x.set 1), .int .u64 (wd x.set 2), .int .u64 (wd x.set 3)] 48)
      have hapc : Apart (.slice A4 cut c4) (.slice A3 k c3) := fun q hq => hap q (by cases A4 with | none => cases hq | some a => exact hq)
      have hrow := rowInts hown4
      have HCU := Lib.hid hcut
      have HKB : Hid (kn ≤ N) := Lib.hid (by omega)
      have HCB : Hid (cut ≤ N) := Lib.hid (by omega)
      clear hown3 hown4 hap hat hcut hcap hkl hMk
      have HYL : Hid ((lastF (St L k) kn).length = kn) := Lib.hid (by unfold lastF; simp [HM.out]; have := HCU.out; omega)
      have HYS := Lib.hid (lastF_sum (St L k) kn)
      by_cases hc4 : c4 = cut
      · have H0 : Hid (kn = 0) := Lib.hid (by have := HCU.out; have : M ≤ c4 := by { rcases hrow with ⟨_, h, h'⟩ | ⟨_, _, _, h, _⟩ <;> omega }; omega)
        clear hrow hsize
        go_wp2
        clear hc4
        have hkb := HKB.out
        go_loopw [7, 29] (fun s j wr2 => ∃ m : Nat, m ≤ kn ∧ j = .int .i64 m ∧ s = .int .i64 ((1 + ((lastF (St L k) kn).take m).sum : Nat) : Int) ∧ wr2 = wr.alloc (.cells #[.int .i64 x.kind, .int .i64 (kn : Int), .int .i64 x.n, .int .i64 x.m, .int .u64 (wd x.set 0), .int .u64 (wd x.set 1), .int .u64 (wd x.set 2), .int .u64 (wd x.set 3)] 48)) (fun _ j _ => kn - (intOf j).toNat)
        case atStart => exact ⟨0, by omega, rfl, by simp, rfl⟩
        case round =>
          obtain ⟨m, hm, rfl, rfl, rfl⟩ := hrel
          by_cases hlt2 : m < kn
          · exfalso; have := H0.out; omega
          · obtain hmk : m = kn := by omega
            have hz : Value.int .i64 ((1 + ((lastF (St L k) kn).take m).sum : Nat) : Int) = Value.int .i64 ((1 + ((St L k).take kn).sum : Nat) : Int) := by rw [hmk, List.take_of_length_le (by rw [HYL.out]; exact Nat.le_refl _), HYS.out]
            rw [hz, hmk]
            clear hz hlt2 hmk
            have H4 : Hid ((Value.int .i64 ((1 + ((St L k).take kn).sum : Nat) : Int)) = .int .i64 ((sizeAt L k : Nat) : Int)) := Lib.hid (by rw [HSA.out])
            generalize ((1 + ((St L k).take kn).sum : Nat) : Int) = y at *
            have hsz := HB.out.size
            have hcb := HCB.out
            go_wp2_with (at_builtin; first
              | ((refine wpList_append_elem_at _ rfl (.tmp 39) (.tmp 41) 40 rfl (w.heap.size) 3 i0 _ _ _ Try.underlying40 HI.out HZ0.out HZ1.out HZ2.out rfl (by decide) _ _ _ _ ?q1 hcut4 _ _ ?q2 (by first | rfl | simp) ?q3 ?q4 (by unfold maxLen; omega) (by omega) (by first | omega | (simp; omega)) ?_; (case q1 => rfl); (case q2 => first | rfl | exact slice_at (by simp)); (case q3 => rfl); (case q4 => simp [Value.oneCell']); intro A5 q5 w5 hown5 hbl5 has5); obtain ⟨hown6, hap6⟩ := row_aside hown3' has5 hapc; have HB5 := Lib.hid ((HB.out.alloc hsz (.cells #[.int .i64 x.kind, .int .i64 (kn : Int), .int .i64 x.n, .int .i64 x.m, .int .u64 (wd x.set 0), .int .u64 (wd x.set 1), .int .u64 (wd x.set 2), .int .u64 (wd x.set 3)] 48)).trans hbl5); have hsz5 := HB5.out.size; clear hown3' has5 hapc hbl5 hcut4 HB)
              | ((refine wpList_append_elem_at _ rfl (.tmp 43) (.tmp 45) 40 rfl (w.heap.size) 3 i0 _ _ _ Try.underlying40 HI.out HZ0.out HZ1.out HZ2.out rfl (by decide) _ _ _ _ ?q1 hown6 _ _ ?q2 (by first | rfl | simp) ?q3 ?q4 (by unfold maxLen; omega) (by omega) (by first | omega | (simp; omega)) ?_; (case q1 => rfl); (case q2 => first | rfl | exact slice_at (by simp)); (case q3 => rfl); (case q4 => simp [Value.oneCell']); intro A7 q7 w7 hown7 hbl7 has7); obtain ⟨hown8, hap8⟩ := row_aside hown5 has7 hap6.symm))
            have HB7 := HB5.out.trans hbl7
            clear hown5 has7 hap6 hbl7 HB5 hown6
            go_wp2
            go_roundw
            case rel =>
              have e1 := Sz_succ hltL
              have e2 := St_succ hltL
              rw [HX.out] at e2
              have e3 : (St L (k + 1)).length = cut + 1 := by rw [e2, HK.out]; simp [HM.out]; have := HCU.out; omega
              have e4 : (Value.int .i64 y) = .int .i64 ((sizeAt L k : Nat) : Int) := H4.out
              have e5 : ints (Sz L k) ++ [Value.int .i64 y] = ints (Sz L (k + 1)) := by rw [e1, e4]; simp
              have e6 : ints (((St L k).drop kn).reverse) ++ [Value.int .i64 y] = ints (St L (k + 1)).reverse := by rw [e2, HK.out, e4]; simp
              have g7 : w7.ownsRow w.heap.size 3 1 (.slice A7 (k + 1) q7) (k + 1) (ints (Sz L (k + 1))) := e5 ▸ hown7
              have g8 : w7.ownsRow w.heap.size 3 1 (.slice A5 (cut + 1) q5) (cut + 1) (ints (St L (k + 1)).reverse) := e6 ▸ hown8
              have g9 : Apart (.slice A5 (cut + 1) q5) (.slice A7 (k + 1) q7) := hap8.symm
              refine ⟨k + 1, A7, A5, q7, q5, by omega, by go_num, rfl, ?_, g7, ?_, ?_, HB7⟩
              · rw [e3]
              · rw [e3]; exact g8
              · rw [e3]; exact g9
            case measure => simp [intOf]; omega
      · rcases hrow with ⟨_, h, h'⟩ | ⟨g, rfl, hgb, _, hcell⟩
        · omega
        have hcell' : ∀ j, j < kn → (wr.alloc (.cells #[.int .i64 x.kind, .int .i64 (kn : Int), .int .i64 x.n, .int .i64 x.m, .int .u64 (wd x.set 0), .int .u64 (wd x.set 1), .int .u64 (wd x.set 2), .int .u64 (wd x.set 3)] 48)).cell? ⟨g, cut + j, none⟩ = some (.int .i64 (((lastF (St L k) kn).getD j 0 : Nat) : Int)) := by
          intro j hj
          rw [← lastF_getD (by rw [HM.out]; exact HCU.out) hj]
          have h1 := hcell (cut + j) (by have := HCU.out; omega)
          have hlt : g < wr.heap.size := by
            rcases hcut4.2 with ⟨hv, _⟩ | ⟨g', _, _, hv, _, _⟩
            · cases hv
            · exact block_lt_of_cell h1
          rw [← h1]
          exact ((Below.refl wr.heap.size wr).alloc (Nat.le_refl _) _).cell (p := ⟨g, cut + j, none⟩) hlt
        have HC := Lib.hid hcell'; clear hcell' hcell
        clear hsize
        go_wp2
        have hkb := HKB.out
        go_loopw [7, 29] (fun s j wr2 => ∃ m : Nat, m ≤ kn ∧ j = .int .i64 m ∧ s = .int .i64 ((1 + ((lastF (St L k) kn).take m).sum : Nat) : Int) ∧ wr2 = wr.alloc (.cells #[.int .i64 x.kind, .int .i64 (kn : Int), .int .i64 x.n, .int .i64 x.m, .int .u64 (wd x.set 0), .int .u64 (wd x.set 1), .int .u64 (wd x.set 2), .int .u64 (wd x.set 3)] 48)) (fun _ j _ => kn - (intOf j).toNat)
        case atStart => exact ⟨0, by omega, rfl, by simp, rfl⟩
        case round =>
          obtain ⟨m, hm, rfl, rfl, rfl⟩ := hrel
          by_cases hlt2 : m < kn
          · have hc1 := HC.out m hlt2
            have hs1 := sum_take_succ (l := lastF (St L k) kn) (j := m) (by rw [HYL.out]; exact hlt2)
            have hs2 := sum_take_le (l := lastF (St L k) kn) (m + 1)
            rw [HYS.out] at hs2
            have hs3 := sizeAt_le (L := L) (k := k) (by omega)
            rw [HSA.out] at hs3
            have HS1 := Lib.hid hs1
            generalize (lastF (St L k) kn).getD m 0 = y at *
            generalize hsm : ((lastF (St L k) kn).take m).sum = z at *
            have HSM := Lib.hid hsm
            have hbd : 1 + z + y ≤ k + 1 := by omega
            clear hs1 hs2 hs3 hsm
            go_wp2
            go_roundw
            case rel => exact ⟨m + 1, by omega, by go_num, by rw [HS1.out]; congr 1; omega, by trivial⟩
            case measure => simp [intOf]; omega
          · obtain hmk : m = kn := by omega
            have hz : Value.int .i64 ((1 + ((lastF (St L k) kn).take m).sum : Nat) : Int) = Value.int .i64 ((1 + ((St L k).take kn).sum : Nat) : Int) := by rw [hmk, List.take_of_length_le (by rw [HYL.out]; exact Nat.le_refl _), HYS.out]
            rw [hz, hmk]
            clear hz hlt2 hmk
            have H4 : Hid ((Value.int .i64 ((1 + ((St L k).take kn).sum : Nat) : Int)) = .int .i64 ((sizeAt L k : Nat) : Int)) := Lib.hid (by rw [HSA.out])
            generalize ((1 + ((St L k).take kn).sum : Nat) : Int) = y at *
            have hsz := HB.out.size
            have hcb := HCB.out
            go_wp2_with (at_builtin; first
              | ((refine wpList_append_elem_at _ rfl (.tmp 39) (.tmp 41) 40 rfl (w.heap.size) 3 i0 _ _ _ Try.underlying40 HI.out HZ0.out HZ1.out HZ2.out rfl (by decide) _ _ _ _ ?q1 hcut4 _ _ ?q2 (by first | rfl | simp) ?q3 ?q4 (by unfold maxLen; omega) (by omega) (by first | omega | (simp; omega)) ?_; (case q1 => rfl); (case q2 => first | rfl | exact slice_at (by simp)); (case q3 => rfl); (case q4 => simp [Value.oneCell']); intro A5 q5 w5 hown5 hbl5 has5); obtain ⟨hown6, hap6⟩ := row_aside hown3' has5 hapc; have HB5 := Lib.hid ((HB.out.alloc hsz (.cells #[.int .i64 x.kind, .int .i64 (kn : Int), .int .i64 x.n, .int .i64 x.m, .int .u64 (wd x.set 0), .int .u64 (wd x.set 1), .int .u64 (wd x.set 2), .int .u64 (wd x.set 3)] 48)).trans hbl5); have hsz5 := HB5.out.size; clear hown3' has5 hapc hbl5 hcut4 HB)
              | ((refine wpList_append_elem_at _ rfl (.tmp 43) (.tmp 45) 40 rfl (w.heap.size) 3 i0 _ _ _ Try.underlying40 HI.out HZ0.out HZ1.out HZ2.out rfl (by decide) _ _ _ _ ?q1 hown6 _ _ ?q2 (by first | rfl | simp) ?q3 ?q4 (by unfold maxLen; omega) (by omega) (by first | omega | (simp; omega)) ?_; (case q1 => rfl); (case q2 => first | rfl | exact slice_at (by simp)); (case q3 => rfl); (case q4 => simp [Value.oneCell']); intro A7 q7 w7 hown7 hbl7 has7); obtain ⟨hown8, hap8⟩ := row_aside hown5 has7 hap6.symm))
            have HB7 := HB5.out.trans hbl7
            clear hown5 has7 hap6 hbl7 HB5 hown6
            go_wp2
            go_roundw
            case rel =>
              have e1 := Sz_succ hltL
              have e2 := St_succ hltL
              rw [HX.out] at e2
              have e3 : (St L (k + 1)).length = cut + 1 := by rw [e2, HK.out]; simp [HM.out]; have := HCU.out; omega
              have e4 : (Value.int .i64 y) = .int .i64 ((sizeAt L k : Nat) : Int) := H4.out
              have e5 : ints (Sz L k) ++ [Value.int .i64 y] = ints (Sz L (k + 1)) := by rw [e1, e4]; simp
              have e6 : ints (((St L k).drop kn).reverse) ++ [Value.int .i64 y] = ints (St L (k + 1)).reverse := by rw [e2, HK.out, e4]; simp
              have g7 : w7.ownsRow w.heap.size 3 1 (.slice A7 (k + 1) q7) (k + 1) (ints (Sz L (k + 1))) := e5 ▸ hown7
              have g8 : w7.ownsRow w.heap.size 3 1 (.slice A5 (cut + 1) q5) (cut + 1) (ints (St L (k + 1)).reverse) := e6 ▸ hown8
              have g9 : Apart (.slice A5 (cut + 1) q5) (.slice A7 (k + 1) q7) := hap8.symm
              refine ⟨k + 1, A7, A5, q7, q5, by omega, by go_num, rfl, ?_, g7, ?_, ?_, HB7⟩
              · rw [e3]
              · rw [e3]; exact g8
              · rw [e3]; exact g9
            case measure => simp [intOf]; omega
    · obtain rfl : k = N := by omega
      go_wp2
      go_ret
      exact ⟨A3, c3, rfl, hown3, HB.out⟩
end Go.Proofs.Ytgkfdjfoakbibaa
