/- Walks of lex.All and gimletref05.All: all words of a text. -/
import Derived.Test.YtddokdjlmdoebaaProg
import Derived.WalkKit
import Derived.WalkSpells
import Derived.WalkLawsBesides
import Derived.Handy
import Derived.Lib.Hide
import Derived.Test.YtddokdjlmdoebaaLexB
import Derived.Test.YtddokdjlmdoebaaLexQ
import Derived.Test.YtddokdjlmdoebaaMMem
set_option linter.unusedVariables false
set_option linter.unusedSimpArgs false
namespace Go.Proofs.Ytddokdjlmdoebaa
open Go.RowKit SetP BrkP LexP
def flatW (L : List Wd) : List Value := L.flatMap fun x => (wdCells x).toList
theorem flatW_append (L M : List Wd) : flatW (L ++ M) = flatW L ++ flatW M := by unfold flatW; rw [List.flatMap_append]
theorem flatW_one (x : Wd) : flatW [x] = (wdCells x).toList := by unfold flatW; simp
theorem flatW_length (L : List Wd) : (flatW L).length = L.length * 9 := by
  induction L with
  | nil => rfl
  | cons x L ih =>
    have e : flatW (x :: L) = (wdCells x).toList ++ flatW L := rfl
    rw [e, List.length_append, ih, List.length_cons]
    simp; omega
theorem flatW_get (L : List Wd) (j f : Nat) (hj : j < L.length) (hf : f < 9) : (flatW L)[j * 9 + f]? = (wdCells (L.getD j wd0))[f]? := by
  induction L generalizing j with
  | nil => simp at hj
  | cons x L ih =>
    have e : flatW (x :: L) = (wdCells x).toList ++ flatW L := rfl
    rw [e]
    cases j with
    | zero => rw [Nat.zero_mul, Nat.zero_add, List.getElem?_append_left (by simpa using hf)]; simp
    | succ j =>
      rw [List.getElem?_append_right (by simp; omega)]
      have := ih j (by simpa using hj)
      rw [show (j + 1) * 9 + f - (wdCells x).toList.length = j * 9 + f by simp; omega]
      rw [this]; rfl
/-- A list of words, as a slice of whatever make, in a block below B. -/
def WordsAt (w : World) (B : Nat) (A : Option Addr) (L : List Wd) : Prop :=
  L.length ≤ 1000000000000 ∧ (L.length = 0 ∨ ∃ b, A = some ⟨b, 0, none⟩ ∧ b < B ∧ ∀ j, j < L.length → ∀ f, f < 9 → w.cell? ⟨b, j * 9 + f, none⟩ = (wdCells (L.getD j wd0))[f]?)
theorem WordsAt.below {w w' : World} {B : Nat} {A : Option Addr} {L : List Wd} (h : WordsAt w B A L) (hb : Below B w w') : WordsAt w' B A L := by
  obtain ⟨h1, h2⟩ := h
  refine ⟨h1, ?_⟩
  rcases h2 with h2 | ⟨b, rfl, hB, hc⟩
  · exact .inl h2
  · exact .inr ⟨b, rfl, hB, fun j hj f hf => (hb.cell (p := ⟨b, j * 9 + f, none⟩) hB).trans (hc j hj f hf)⟩
theorem WordsAt.more {w : World} {B B' : Nat} {A : Option Addr} {L : List Wd} (h : WordsAt w B A L) (hB : B ≤ B') : WordsAt w B' A L := by
  obtain ⟨h1, h2⟩ := h
  refine ⟨h1, ?_⟩
  rcases h2 with h2 | ⟨b, rfl, hb, hc⟩
  · exact .inl h2
  · exact .inr ⟨b, rfl, by omega, hc⟩
theorem WordsAt.of_row {w : World} {base n c : Nat} {A : Option Addr} {L : List Wd} (h : w.ownsRow base 57 9 (.slice A n c) n (flatW L)) (hn : L.length = n) (hb : n ≤ 1000000000000) : WordsAt w w.heap.size A L := by
  refine ⟨by omega, ?_⟩
  rcases Nat.eq_zero_or_pos n with h0 | h0
  · exact .inl (by omega)
  · obtain ⟨g, rfl, _, hg, _, hc⟩ := row_cell h h0
    refine .inr ⟨g, rfl, hg, fun j hj f hf => ?_⟩
    rw [hc _ (by omega), flatW_get L j f hj hf]
def wdZero : Value := .agg #[.int .i64 0, .int .i64 0, .int .i64 0, .int .u64 0, .int .u64 0, .int .u64 0, .int .u64 0, .int .i64 0, .int .i64 0]
set_option maxRecDepth 100000 in
theorem info_word : (Try.prog.info? 57).map (fun i => (i.zero, i.size, i.bytes)) = some (some wdZero, 9, 72) := by kernel_rfl
/-- What a call hands back that makes a list of words. -/
def RetAll (r : List Wd × Int × Int) (w : World) (e : Ending) (w' : World) : Prop :=
  ∃ A c, e = .returned (.tuple #[.slice A r.1.length c, .int .i64 r.2.1, .int .i64 r.2.2]) ∧ w'.ownsRow w.heap.size 57 9 (.slice A r.1.length c) r.1.length (flatW r.1) ∧ Below w.heap.size w w'
theorem word_or {s : ByteArray} {k : Nat} (h : k < s.size) : (∃ (x : Wd) (e : Nat), nextW s k = ⟨x, 0, 0⟩ ∧ x.stop = (e : Int) ∧ k < e ∧ e ≤ s.size) ∨ ∃ (x : Wd) (er p : Int), nextW s k = ⟨x, er, p⟩ ∧ er ≠ 0 := by
  by_cases h0 : (nextW s k).err = 0
  · obtain ⟨x, e, h1, h2, h3, h4, _⟩ := fit_ok h h0
    exact .inl ⟨x, e, h1, h2, h3, h4⟩
  · exact .inr ⟨(nextW s k).word, (nextW s k).err, (nextW s k).place, rfl, h0⟩
set_option maxRecDepth 100000 in
set_option maxHeartbeats 2000000 in
theorem lall_any (s : ByteArray) (hs : s.size ≤ 1000000000) (w : World) : Calls Try.prog 38 #[.string s] w (RetAll (allGo s 0 []) w) := by
    obtain ⟨i0, hi, hz0, hz1, hz2⟩ := info_parts info_word
    have HI := Lib.hid hi; clear hi
    have HZ0 := Lib.hid hz0; clear hz0
    have HZ1 := Lib.hid hz1; clear hz1
    have HZ2 := Lib.hid hz2; clear hz2
    go_enter Try.func38, Try.ntmps38
    go_wp2
    go_loopw [5, 6] (fun o a wr => ∃ (k : Nat) (L : List Wd) (A : Option Addr) (c : Nat), k ≤ s.size ∧ a = .int .i64 k ∧ o = .slice A L.length c ∧ L.length ≤ k ∧ wr.ownsRow w.heap.size 57 9 (.slice A L.length c) L.length (flatW L) ∧ allGo s 0 [] = allGo s k L ∧ Below w.heap.size w wr) (fun _ a _ => s.size - (intOf a).toNat)
    case atStart => exact ⟨0, [], none, 0, by omega, rfl, rfl, by simp, World.ownsRow_nil w _ _ _, rfl, Below.refl _ _⟩
    case round =>
      obtain ⟨k, L, A, c, hk, rfl, rfl, hl, hown, hgo, hB⟩ := hrel
      have HB := Lib.hid hB; clear hB
      have HGO := Lib.hid hgo; clear hgo
      by_cases hlt : k < s.size
      · rcases word_or hlt with ⟨x, e, hw, he, g1, g2⟩ | ⟨x, er, p, hw, he⟩
        · have C := lnext_any s k (by omega)
          rw [hw] at C
          have HGO' : Hid (allGo s 0 [] = allGo s e (L ++ [x])) := Lib.hid (by rw [HGO.out, allGo_word hlt L (by rw [hw]) (by rw [hw]; exact he), hw])
          obtain ⟨kd, at_, stop, f, n, m⟩ := x
          simp only at he
          subst he
          clear hw HGO
          generalize hM : L.length = M at *
          have HM := Lib.hid hM; clear hM
          go_wp2_with fail
          refine (C _).mono ?_
          rintro e1 w1 ⟨rfl, hb1⟩
          clear C
          have hown1 := row_call hown hb1
          have HB1 := Lib.hid (below_then HB.out hb1)
          clear hb1 hown HB
          have o0 : Slab (w1.alloc (.cells (wdCells ⟨kd, at_, e, f, n, m⟩) 57)) w1.heap.size (wdCells ⟨kd, at_, e, f, n, m⟩) 57 := Slab.new _ _ _
          have HNE : Hid ((Value.slice A M c).ownBlock ≠ some w1.heap.size) := Lib.hid (fun e => by have := (hown1.lt _ e).2; omega)
          have hown2 := hown1.alloc (.cells (wdCells ⟨kd, at_, e, f, n, m⟩) 57)
          have HB2 := Lib.hid (HB1.out.alloc HB1.out.size (.cells (wdCells ⟨kd, at_, e, f, n, m⟩) 57))
          have hsz : w.heap.size ≤ (w1.alloc (.cells (wdCells ⟨kd, at_, e, f, n, m⟩) 57)).heap.size := HB2.out.size
          clear hown1 HB1
          unfold wdCells at o0 hown2 hsz
          simp only at o0 hown2 hsz
          go_wp2_with ((at_builtin; go_must (refine wpList_append_elem_at _ rfl (.tmp 25) (.tmp 27) 63 rfl (w.heap.size) 57 i0 _ _ _ Try.underlying63 HI.out HZ0.out HZ1.out HZ2.out rfl (by decide) _ _ _ _ ?q1 hown2 _ _ ?q2 (by first | rfl | simp) ?q3 ?q4 (by unfold maxLen; omega) (by omega) (by first | omega | (simp; omega)) ?_); (case q1 => rfl); (case q2 => first | rfl | exact slice_at (by simp)); (case q3 => rfl); (case q4 => simp [Value.oneCell']); intro A3 q3 w3 hown3 hbl3 has3); have HB3 := Lib.hid (HB2.out.trans hbl3); obtain ⟨o3, hx3⟩ := has3 _ _ _ o0 HNE.out; obtain ⟨c3, f3⟩ := o3.facts; clear hx3 has3 hbl3 o0 hown2 HB2 HNE)
          go_roundw
          case rel =>
            refine ⟨e, L ++ [⟨kd, at_, e, f, n, m⟩], A3, q3, g2, by go_num, ?_, ?_, ?_, HGO'.out, HB3.out⟩
            · rw [List.length_append, HM.out]; rfl
            · rw [List.length_append, HM.out]; simp; omega
            · rw [List.length_append, HM.out, flatW_append, flatW_one]; exact hown3
          case measure => simp [intOf]; omega
        · have C := lnext_any s k (by omega)
          rw [hw] at C
          have hr : allGo s 0 [] = ([], er, p) := by rw [HGO.out, allGo_bad hlt L (by rw [hw]; exact he), hw]
          rw [hr]
          have hn : (er != 0) = true := bne_iff_ne.2 he
          have HE := Lib.hid he
          clear hw HGO he hr hown
          obtain ⟨kd, at_, stop, f, n, m⟩ := x
          go_wp2_with fail
          refine (C _).mono ?_
          rintro e1 w1 ⟨rfl, hb1⟩
          have hb2 := below_then HB.out hb1
          have HB2 := Lib.hid (hb2.alloc hb2.size (.cells (wdCells ⟨kd, at_, stop, f, n, m⟩) 57))
          clear hb1 C hb2 HB
          go_wp2
          exact bodyPost_ret (v := .tuple #[.slice none 0 0, .int .i64 er, .int .i64 p]) (by simp [results, Try.results38, go_sem]) rfl ⟨none, 0, rfl, World.ownsRow_nil _ _ _ _, HB2.out⟩
      · have hr : allGo s 0 [] = (L, 0, 0) := by rw [HGO.out, allGo_end (by omega)]
        have HR := Lib.hid hr
        clear hr HGO
        go_wp2
        exact bodyPost_ret (v := .tuple #[.slice A L.length c, .int .i64 0, .int .i64 0]) (by simp [results, Try.results38, go_sem]) rfl ⟨A, c, by rw [HR.out], by rw [HR.out]; exact hown, HB.out⟩
end Go.Proofs.Ytddokdjlmdoebaa
