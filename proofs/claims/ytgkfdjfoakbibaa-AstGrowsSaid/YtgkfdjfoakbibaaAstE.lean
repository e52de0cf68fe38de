/- Walks of the packages ast and gimletref06: kids. -/
import Derived.Test.YtgkfdjfoakbibaaProg
import Derived.WalkKit
import Derived.WalkSpells
import Derived.WalkLawsBesides
import Derived.Handy
import Derived.Lib.Hide
import Derived.Test.YtgkfdjfoakbibaaAstD
namespace Go.Proofs.Ytgkfdjfoakbibaa
open Go.RowKit SetP AstP
theorem sizes_at (A : Option Addr) (c : Nat) (L : List Nd) : ∀ w : World, NodesAt w w.heap.size A L →
    Calls Try.prog 27 #[.slice A L.length c] w (RetRow 3 1 (sizesF L).length (ints (sizesF L)) w) := fun w h => sizes_any A c L w h
theorem rsizes_at (A : Option Addr) (c : Nat) (L : List Nd) : ∀ w : World, NodesAt w w.heap.size A L →
    Calls Try.prog 28 #[.slice A L.length c] w (RetRow 3 1 (sizesF L).length (ints (sizesF L)) w) := fun w h => rsizes_any A c L w h
theorem sizes_len_le (L : List Nd) : (sizesF L).length ≤ L.length := by
  cases h : formedF L with
  | true => rw [sizesF_formed h, Sz_length (Nat.le_refl _)]; exact Nat.le_refl _
  | false => rw [sizesF_not h]; simp
theorem formed_of_len {L : List Nd} {k : Nat} (h : k < (sizesF L).length) : formedF L = true := by
  cases hf : formedF L with
  | true => rfl
  | false => rw [sizesF_not hf] at h; simp at h
theorem row_read {w : World} {base n c g : Nat} {l : List Nat} (h : w.ownsRow base 3 1 (.slice (some ⟨g, 0, none⟩) n c) n (ints l)) {q : Nat} (hq : q < n) : w.cell? ⟨g, q, none⟩ = some (.int .i64 ((l.getD q 0 : Nat) : Int)) := by
  rcases rowInts h with ⟨h, _⟩ | ⟨g', h, _, _, hc⟩
  · cases h
  · cases h; exact hc q hq
set_option maxRecDepth 100000 in
set_option maxHeartbeats 2000000 in
theorem kids_any (A : Option Addr) (c : Nat) (L : List Nd) (i : Int) (w : World) (hL : NodesAt w w.heap.size A L) :
    Calls Try.prog 29 #[.slice A L.length c, .int .i64 i] w (RetRow 3 1 (kidsF L i).length (ints (kidsF L i)) w) := by
  obtain ⟨i0, hi, hz0, hz1, hz2⟩ := info_parts info_int
  have HI := Lib.hid hi; clear hi
  have HZ0 := Lib.hid hz0; clear hz0
  have HZ1 := Lib.hid hz1; clear hz1
  have HZ2 := Lib.hid hz2; clear hz2
  have hlen := hL.1
  have CS := sizes_any A c L w hL
  have HL := Lib.hid hL; clear hL
  have hle := sizes_len_le L
  by_cases h0 : i < 0
  · have d0 : decide (i < 0) = true := by simpa using h0
    have hk0 : kidsF L i = [] := by unfold kidsF; rw [if_pos (.inl h0)]
    rw [hk0]
    clear hk0
    go_enter Try.func29, Try.ntmps29
    go_wp2_with fail
    refine CS.mono ?_
    rintro e1 w1 ⟨A1, c1, rfl, hrow, hb1⟩
    clear hrow
    go_wp2
    go_ret
    exact ⟨none, 0, rfl, World.ownsRow_nil _ _ _ _, hb1⟩
  by_cases h1 : ((sizesF L).length : Int) ≤ i
  · have d0 : decide (i < 0) = false := by simpa using h0
    have d1 : decide (((sizesF L).length : Int) ≤ i) = true := by simpa using h1
    have hk0 : kidsF L i = [] := by unfold kidsF; rw [if_pos (.inr h1)]
    rw [hk0]
    clear hk0
    go_enter Try.func29, Try.ntmps29
    go_wp2_with fail
    refine CS.mono ?_
    rintro e1 w1 ⟨A1, c1, rfl, hrow, hb1⟩
    clear hrow
    go_wp2
    go_ret
    exact ⟨none, 0, rfl, World.ownsRow_nil _ _ _ _, hb1⟩
  obtain ⟨k, rfl⟩ := Int.eq_ofNat_of_zero_le (show 0 ≤ i by omega)
  have hkl : k < (sizesF L).length := by omega
  have hF := formed_of_len hkl
  have hsz := sizesF_formed hF
  have hkF : kidsF L (k : Int) = (kidsRev L k (L.getD k ndEmpty).kids.toNat).reverse := by unfold kidsF; rw [if_neg (by omega)]; rfl
  rw [hkF, List.length_reverse, kidsRev_length]
  rw [hsz] at CS
  rw [Sz_length (Nat.le_refl _)] at CS
  have hltL : k < L.length := by omega
  have hat := formed_at hF hltL
  obtain ⟨N, hN⟩ : ∃ N, L.length = N := ⟨_, rfl⟩
  have hkid := fun j (hj : j < (St L k).length) => kid_at (L := L) hltL hj
  have hszl := Sz_length (L := L) (k := L.length) (Nat.le_refl _)
  have hstl := St_len (L := L) (k := k) (by omega)
  rw [hN] at CS hlen hszl hkid ⊢
  have hlt : k < N := by omega
  have HN := Lib.hid hN
  obtain ⟨x, hx⟩ : ∃ x, L.getD k ndEmpty = x := ⟨_, rfl⟩
  rw [hx] at hat ⊢
  obtain ⟨kn, hkn⟩ := Int.eq_ofNat_of_zero_le hat.1
  have HK : Hid (x.kids.toNat = kn) := Lib.hid (by omega)
  have hknl : kn ≤ (St L k).length := by omega
  have hknb : kn ≤ N := by omega
  have HKNL := Lib.hid hknl
  rw [HK.out]
  have HX := Lib.hid hx
  clear hx hat hknl hstl
  have HKID := Lib.hid hkid
  have HSZL := Lib.hid hszl
  clear hN hF hsz hkF hle h0 h1 hkl hkid hszl
  have d0 : decide ((k : Int) < 0) = false := by simp
  have d1 : decide (N ≤ k) = false := by simpa using hlt
  go_enter Try.func29, Try.ntmps29
  go_wp2_with fail
  refine CS.mono ?_
  rintro e1 w1 ⟨A1, c1, rfl, hrow, hb1⟩
  have HB1 := Lib.hid hb1
  clear CS hb1
  obtain ⟨g1, rfl⟩ : ∃ g1, A1 = some ⟨g1, 0, none⟩ := by
    rcases rowInts hrow with ⟨_, h, _⟩ | ⟨g, h, _⟩
    · omega
    · exact ⟨g, h⟩
  go_wp2
  go_loopw [6, 7] (fun o a wr => ∃ (m : Nat) (A2 : Option Addr) (c2 : Nat) (p : Int), m ≤ kn ∧ o = .slice A2 m c2 ∧ a = .int .i64 p ∧ p = (k : Int) - 1 - ((St L k).take m).sum ∧
      wr.ownsRow w.heap.size 3 1 (.slice A2 m c2) m (ints (kidsRev L k m)) ∧ wr.ownsRow w.heap.size 3 1 (.slice (some ⟨g1, 0, none⟩) N c1) N (ints (Sz L N)) ∧ Apart (.slice A2 m c2) (.slice (some ⟨g1, 0, none⟩) N c1) ∧ Below w.heap.size w wr)
    (fun o _ _ => match o with | .slice _ m _ => kn - m | _ => 0)
  case atStart => exact ⟨0, none, 0, _, by omega, rfl, rfl, by simp, World.ownsRow_nil w1 _ _ _, hrow, (fun k hk => by cases hk), HB1.out⟩
  case round =>
    clear hrow HB1
    obtain ⟨m, A2, c2, p, hm, rfl, rfl, hp, hown, hrow, hap, hB⟩ := hrel
    have HB := Lib.hid hB; clear hB
    have HAP := Lib.hid hap; clear hap
    have HP := Lib.hid hp; clear hp
    obtain ⟨b, off, rfl, hb, hn8⟩ := (HL.out.below HB.out).node hltL
    unfold Node8 at hn8
    rw [HX.out] at hn8
    obtain ⟨n0, n1, n2, n3, n4, n5, n6, n7⟩ := hn8
    by_cases hlt2 : m < kn
    · obtain ⟨q1, q2, q3, q4, q5⟩ := HKID.out m (by have := HKNL.out; omega)
      have hq : p = ((kidAt L k m : Nat) : Int) := by have := HP.out; unfold kidAt; omega
      subst hq
      have hsz := HB.out.size
      obtain ⟨y, hy⟩ : ∃ y, (St L k).getD m 0 = y := ⟨_, rfl⟩
      rw [hy] at q3 q5
      obtain ⟨q, hq⟩ : ∃ q, kidAt L k m = q := ⟨_, rfl⟩
      have hyb : y ≤ q + 1 := by have := HP.out; rw [hq] at this; omega
      rw [hq] at q3 q4 ⊢
      have HQ := Lib.hid hq
      have hqN : q < N := by omega
      have HQ3 := Lib.hid q3
      have HQ5 := Lib.hid q5
      clear q1 q2 q3 q5 hy hq
      go_wp2_with (at_builtin; first | ((refine wpList_append_elem_at _ rfl (.tmp 34) (.tmp 36) 40 rfl (w.heap.size) 3 i0 _ _ _ Try.underlying40 HI.out HZ0.out HZ1.out HZ2.out rfl (by decide) _ _ _ _ ?q1 hown _ _ ?q2 (by first | rfl | simp) ?q3 ?q4 (by unfold maxLen; omega) (by omega) (by first | omega | (simp; omega)) ?_; (case q1 => rfl); (case q2 => first | rfl | exact slice_at (by simp)); (case q3 => rfl); (case q4 => simp [Value.oneCell']); intro A5 q5 w5 hown5 hbl5 has5); obtain ⟨hrow5, hap5⟩ := row_aside hrow has5 HAP.out; have HB5 := Lib.hid (HB.out.trans hbl5); have hc5 := row_read hrow5 hqN; rw [HQ3.out] at hc5; clear has5 hbl5 hown))
      go_roundw
      case rel =>
        have e1 : ints (kidsRev L k m) ++ [Value.int .i64 (q : Int)] = ints (kidsRev L k (m + 1)) := by rw [kidsRev_succ, HQ.out]; simp
        have h5 : w5.ownsRow w.heap.size 3 1 (.slice A5 (m + 1) q5) (m + 1) (ints (kidsRev L k (m + 1))) := e1 ▸ hown5
        refine ⟨m + 1, A5, q5, _, by omega, rfl, rfl, ?_, h5, hrow5, hap5, HB5.out⟩
        have g1 := HP.out
        have g2 := HQ.out
        have g3 := HQ5.out
        rw [g2] at g1
        omega
      case measure => simp; omega
    · have hmk : m = kn := by omega
      have CR := reverse_any w.heap.size A2 c2 (kidsRev L k kn) wr (by rw [kidsRev_length]; rw [hmk] at hown; exact hown) (by rw [kidsRev_length]; omega) HB.out.size
      rw [kidsRev_length] at CR
      rw [hmk]
      clear hown hrow
      go_wp2_with fail
      refine CR.mono ?_
      rintro e6 w6 ⟨rfl, hown6, hb6⟩
      have HB6 := HB.out.trans hb6
      go_wp2
      go_ret
      exact ⟨_, _, rfl, hown6, HB6⟩
end Go.Proofs.Ytgkfdjfoakbibaa
