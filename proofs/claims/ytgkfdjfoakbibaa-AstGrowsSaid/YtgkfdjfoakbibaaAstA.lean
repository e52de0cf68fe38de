/- Walks of the packages ast and gimletref06: is a list a tree? -/
import Derived.Test.YtgkfdjfoakbibaaProg
import Derived.WalkKit
import Derived.WalkSpells
import Derived.WalkLawsBesides
import Derived.Handy
import Derived.Lib.Hide
import Derived.Test.YtgkfdjfoakbibaaAstP
import Derived.Test.YtgkfdjfoakbibaaMem3
import Derived.Deep.RegionHeld3
import Derived.IntWalk
namespace Go.Proofs.Ytgkfdjfoakbibaa
open Go.RowKit SetP AstP
/-- A node's cells. -/
abbrev ndCells (x : Nd) : Array Value := #[.int .i64 x.kind, .int .i64 x.kids, .int .i64 x.n, .int .i64 x.m, .int .u64 (wd x.set 0), .int .u64 (wd x.set 1), .int .u64 (wd x.set 2), .int .u64 (wd x.set 3)]
/-- A list of nodes, as a slice of whatever make, in a block below B. -/
def NodesAt (w : World) (B : Nat) (A : Option Addr) (L : List Nd) : Prop :=
  L.length ≤ 1000000000000 ∧ (L.length = 0 ∨ ∃ b off, A = some ⟨b, off, none⟩ ∧ b < B ∧ ∀ j, j < L.length → ∀ f, f < 8 → w.cell? ⟨b, off + j * 8 + f, none⟩ = (ndCells (L.getD j ndEmpty))[f]?)
theorem NodesAt.below {w w' : World} {B : Nat} {A : Option Addr} {L : List Nd} (h : NodesAt w B A L) (hb : Below B w w') : NodesAt w' B A L := by
  obtain ⟨h1, h2⟩ := h
  refine ⟨h1, ?_⟩
  rcases h2 with h2 | ⟨b, off, rfl, hB, hc⟩
  · exact .inl h2
  · exact .inr ⟨b, off, rfl, hB, fun j hj f hf => (hb.cell (p := ⟨b, off + j * 8 + f, none⟩) hB).trans (hc j hj f hf)⟩
theorem NodesAt.more {w : World} {B B' : Nat} {A : Option Addr} {L : List Nd} (h : NodesAt w B A L) (hB : B ≤ B') : NodesAt w B' A L := by
  obtain ⟨h1, h2⟩ := h
  refine ⟨h1, ?_⟩
  rcases h2 with h2 | ⟨b, off, rfl, hb, hc⟩
  · exact .inl h2
  · exact .inr ⟨b, off, rfl, by omega, hc⟩
/-- The cells of one node. -/
def Node8 (w : World) (b o : Nat) (x : Nd) : Prop :=
  w.cell? ⟨b, o, none⟩ = some (.int .i64 x.kind) ∧ w.cell? ⟨b, o + 1, none⟩ = some (.int .i64 x.kids) ∧ w.cell? ⟨b, o + 2, none⟩ = some (.int .i64 x.n) ∧ w.cell? ⟨b, o + 3, none⟩ = some (.int .i64 x.m) ∧
  w.cell? ⟨b, o + 4, none⟩ = some (.int .u64 (wd x.set 0)) ∧ w.cell? ⟨b, o + 5, none⟩ = some (.int .u64 (wd x.set 1)) ∧ w.cell? ⟨b, o + 6, none⟩ = some (.int .u64 (wd x.set 2)) ∧ w.cell? ⟨b, o + 7, none⟩ = some (.int .u64 (wd x.set 3))
theorem NodesAt.node {w : World} {B : Nat} {A : Option Addr} {L : List Nd} (h : NodesAt w B A L) {k : Nat} (hk : k < L.length) : ∃ b off, A = some ⟨b, off, none⟩ ∧ b < B ∧ Node8 w b (off + k * 8) (L.getD k ndEmpty) := by
  rcases h.2 with h2 | ⟨b, off, rfl, hb, hc⟩
  · omega
  · exact ⟨b, off, rfl, hb, hc k hk 0 (by omega), hc k hk 1 (by omega), hc k hk 2 (by omega), hc k hk 3 (by omega), hc k hk 4 (by omega), hc k hk 5 (by omega), hc k hk 6 (by omega), hc k hk 7 (by omega)⟩

theorem run_at {L : List Nd} {k : Nat} {t : Int} (hk : k < L.length) (h : runF (L.take k) 0 = some t) : runF L 0 = runF (L.getD k ndEmpty :: L.drop (k + 1)) t := by
  have e : L = L.take k ++ (L.getD k ndEmpty :: L.drop (k + 1)) := by
    rw [List.getD_eq_getElem?_getD, List.getElem?_eq_getElem hk]
    show L = L.take k ++ (L[k] :: L.drop (k + 1))
    rw [← List.drop_eq_getElem_cons hk, List.take_append_drop]
  conv => lhs; rw [e]
  rw [runF_append, h]; rfl
theorem run_succ {L : List Nd} {k : Nat} {t : Int} (hk : k < L.length) (h : runF (L.take k) 0 = some t) (h0 : ¬ ((L.getD k ndEmpty).kids < 0 ∨ t < (L.getD k ndEmpty).kids)) : runF (L.take (k + 1)) 0 = some (t + 1 - (L.getD k ndEmpty).kids) := by
  have e : L.take (k + 1) = L.take k ++ [L.getD k ndEmpty] := by
    rw [List.getD_eq_getElem?_getD, List.getElem?_eq_getElem hk, List.take_add_one, List.getElem?_eq_getElem hk]; rfl
  rw [e, runF_append, h]
  show runF [L.getD k ndEmpty] t = _
  rw [runF, if_neg h0, runF]
theorem run_bad {L : List Nd} {k : Nat} {t : Int} (hk : k < L.length) (h : runF (L.take k) 0 = some t) (h0 : (L.getD k ndEmpty).kids < 0 ∨ t < (L.getD k ndEmpty).kids) : formedF L = false := by
  unfold formedF
  rw [run_at hk h, runF, if_pos h0]; rfl
theorem run_end {L : List Nd} {t : Int} (h : runF (L.take L.length) 0 = some t) : formedF L = (t == 1) := by
  rw [List.take_length] at h
  unfold formedF
  rw [h, Bool.eq_iff_iff]; simp
set_option maxRecDepth 100000 in
set_option maxHeartbeats 2000000 in
theorem formed_any (A : Option Addr) (c : Nat) (L : List Nd) (w : World) (hL : NodesAt w w.heap.size A L) :
    Calls Try.prog 22 #[.slice A L.length c] w fun e w' => e = .returned (.bool (formedF L)) ∧ Below w.heap.size w w' := by
  have hlen := hL.1
  have HL := Lib.hid hL; clear hL
  obtain ⟨N, hN⟩ : ∃ N, L.length = N := ⟨_, rfl⟩
  rw [hN] at hlen ⊢
  have HN := Lib.hid hN; clear hN
  go_enter Try.func22, Try.ntmps22
  go_wp2
  go_loopw [3, 8] (fun t i wr => ∃ (k : Nat) (u : Int), k ≤ N ∧ 0 ≤ u ∧ u ≤ k ∧ i = .int .i64 k ∧ t = .int .i64 u ∧ runF (L.take k) 0 = some u ∧ Below w.heap.size w wr) (fun _ i _ => N - (intOf i).toNat)
  case atStart => exact ⟨0, 0, by omega, by omega, by omega, rfl, rfl, by simp [runF], Below.refl _ _⟩
  case round =>
    obtain ⟨k, u, hk, hu0, hu1, rfl, rfl, hR, hB⟩ := hrel
    have HB := Lib.hid hB; clear hB
    have HR := Lib.hid hR; clear hR
    by_cases hlt : k < N
    · have hltL : k < L.length := by rw [HN.out]; exact hlt
      obtain ⟨b, off, rfl, hb, hn8⟩ := (HL.out.below HB.out).node hltL
      unfold Node8 at hn8
      obtain ⟨x, hx⟩ : ∃ x, L.getD k ndEmpty = x := ⟨_, rfl⟩
      rw [hx] at hn8
      have HX := Lib.hid hx; clear hx
      obtain ⟨n0, n1, n2, n3, n4, n5, n6, n7⟩ := hn8
      cases d1 : decide (x.kids < 0) with
      | true =>
        have hF : formedF L = false := run_bad hltL HR.out (by rw [HX.out]; exact .inl (by simpa using d1))
        have HF := Lib.hid hF; clear hF
        go_wp2
        refine bodyPost_ret (v := .bool false) (by simp [results, Try.results22, go_sem]) rfl ⟨by rw [HF.out], ?_⟩
        have hb := HB.out
        (repeat' (first | (with_reducible exact Below.refl _ _) | (with_reducible assumption) | (with_reducible refine Below.alloc ?_ ?_ _) | (with_reducible refine Below.drew ?_) | (with_reducible refine below_set ?_ ?_ _) | (with_reducible refine below_call ?_ ?_ (by assumption)) | (with_reducible exact Below.size (by assumption)) | omega | go_size))
      | false =>
      cases d2 : decide (u < x.kids) with
      | true =>
        have hF : formedF L = false := run_bad hltL HR.out (by rw [HX.out]; exact .inr (by simpa using d2))
        have HF := Lib.hid hF; clear hF
        go_wp2
        refine bodyPost_ret (v := .bool false) (by simp [results, Try.results22, go_sem]) rfl ⟨by rw [HF.out], ?_⟩
        have hb := HB.out
        (repeat' (first | (with_reducible exact Below.refl _ _) | (with_reducible assumption) | (with_reducible refine Below.alloc ?_ ?_ _) | (with_reducible refine Below.drew ?_) | (with_reducible refine below_set ?_ ?_ _) | (with_reducible refine below_call ?_ ?_ (by assumption)) | (with_reducible exact Below.size (by assumption)) | omega | go_size))
      | false =>
        have k1 : 0 ≤ x.kids := by simpa using d1
        have k2 : x.kids ≤ u := by simpa using d2
        have hF := run_succ hltL HR.out (by rw [HX.out]; omega)
        rw [HX.out] at hF
        have HF := Lib.hid hF; clear hF
        go_wp2
        go_roundw
        case rel =>
          refine ⟨k + 1, u + 1 - x.kids, by omega, by omega, by omega, by go_num, by congr 1; omega, HF.out, ?_⟩
          have hb := HB.out
          (repeat' (first | (with_reducible exact Below.refl _ _) | (with_reducible assumption) | (with_reducible refine Below.alloc ?_ ?_ _) | (with_reducible refine Below.drew ?_) | (with_reducible refine below_set ?_ ?_ _) | (with_reducible refine below_call ?_ ?_ (by assumption)) | (with_reducible exact Below.size (by assumption)) | omega | go_size))
        case measure => simp [intOf]; omega
    · obtain rfl : k = N := by omega
      have hF : formedF L = (u == 1) := run_end (by rw [HN.out]; exact HR.out)
      have HF := Lib.hid hF; clear hF
      go_wp2
      refine bodyPost_ret (v := .bool (u == 1)) (by simp [results, Try.results22, go_sem]) rfl ⟨by rw [HF.out], HB.out⟩
set_option maxRecDepth 100000 in
set_option maxHeartbeats 2000000 in
theorem rformed_any (A : Option Addr) (c : Nat) (L : List Nd) (w : World) (hL : NodesAt w w.heap.size A L) :
    Calls Try.prog 23 #[.slice A L.length c] w fun e w' => e = .returned (.bool (formedF L)) ∧ Below w.heap.size w w' := by
  have hlen := hL.1
  have HL := Lib.hid hL; clear hL
  obtain ⟨N, hN⟩ : ∃ N, L.length = N := ⟨_, rfl⟩
  rw [hN] at hlen ⊢
  have HN := Lib.hid hN; clear hN
  go_enter Try.func23, Try.ntmps23
  go_wp2
  go_loopw [3, 4] (fun t i wr => ∃ (k : Nat) (u : Int), k ≤ N ∧ 0 ≤ u ∧ u ≤ k ∧ i = .int .i64 k ∧ t = .int .i64 u ∧ runF (L.take k) 0 = some u ∧ Below w.heap.size w wr) (fun _ i _ => N - (intOf i).toNat)
  case atStart => exact ⟨0, 0, by omega, by omega, by omega, rfl, rfl, by simp [runF], Below.refl _ _⟩
  case round =>
    obtain ⟨k, u, hk, hu0, hu1, rfl, rfl, hR, hB⟩ := hrel
    have HB := Lib.hid hB; clear hB
    have HR := Lib.hid hR; clear hR
    by_cases hlt : k < N
    · have hltL : k < L.length := by rw [HN.out]; exact hlt
      obtain ⟨b, off, rfl, hb, hn8⟩ := (HL.out.below HB.out).node hltL
      unfold Node8 at hn8
      obtain ⟨x, hx⟩ : ∃ x, L.getD k ndEmpty = x := ⟨_, rfl⟩
      rw [hx] at hn8
      have HX := Lib.hid hx; clear hx
      obtain ⟨n0, n1, n2, n3, n4, n5, n6, n7⟩ := hn8
      cases d1 : decide (x.kids < 0) with
      | true =>
        have hF : formedF L = false := run_bad hltL HR.out (by rw [HX.out]; exact .inl (by simpa using d1))
        have HF := Lib.hid hF; clear hF
        go_wp2
        refine bodyPost_ret (v := .bool false) (by simp [results, Try.results23, go_sem]) rfl ⟨by rw [HF.out], ?_⟩
        have hb := HB.out
        (repeat' (first | (with_reducible exact Below.refl _ _) | (with_reducible assumption) | (with_reducible refine Below.alloc ?_ ?_ _) | (with_reducible refine Below.drew ?_) | (with_reducible refine below_set ?_ ?_ _) | (with_reducible refine below_call ?_ ?_ (by assumption)) | (with_reducible exact Below.size (by assumption)) | omega | go_size))
      | false =>
      cases d2 : decide (u < x.kids) with
      | true =>
        have hF : formedF L = false := run_bad hltL HR.out (by rw [HX.out]; exact .inr (by simpa using d2))
        have HF := Lib.hid hF; clear hF
        go_wp2
        refine bodyPost_ret (v := .bool false) (by simp [results, Try.results23, go_sem]) rfl ⟨by rw [HF.out], ?_⟩
        have hb := HB.out
        (repeat' (first | (with_reducible exact Below.refl _ _) | (with_reducible assumption) | (with_reducible refine Below.alloc ?_ ?_ _) | (with_reducible refine Below.drew ?_) | (with_reducible refine below_set ?_ ?_ _) | (with_reducible refine below_call ?_ ?_ (by assumption)) | (with_reducible exact Below.size (by assumption)) | omega | go_size))
      | false =>
        have k1 : 0 ≤ x.kids := by simpa using d1
        have k2 : x.kids ≤ u := by simpa using d2
        have hF := run_succ hltL HR.out (by rw [HX.out]; omega)
        rw [HX.out] at hF
        have HF := Lib.hid hF; clear hF
        go_wp2
        go_roundw
        case rel =>
          refine ⟨k + 1, u + 1 - x.kids, by omega, by omega, by omega, by go_num, by congr 1; omega, HF.out, ?_⟩
          have hb := HB.out
          (repeat' (first | (with_reducible exact Below.refl _ _) | (with_reducible assumption) | (with_reducible refine Below.alloc ?_ ?_ _) | (with_reducible refine Below.drew ?_) | (with_reducible refine below_set ?_ ?_ _) | (with_reducible refine below_call ?_ ?_ (by assumption)) | (with_reducible exact Below.size (by assumption)) | omega | go_size))
        case measure => simp [intOf]; omega
    · obtain rfl : k = N := by omega
      have hF : formedF L = (u == 1) := run_end (by rw [HN.out]; exact HR.out)
      have HF := Lib.hid hF; clear hF
      go_wp2
      refine bodyPost_ret (v := .bool (u == 1)) (by simp [results, Try.results23, go_sem]) rfl ⟨by rw [HF.out], HB.out⟩
end Go.Proofs.Ytgkfdjfoakbibaa
