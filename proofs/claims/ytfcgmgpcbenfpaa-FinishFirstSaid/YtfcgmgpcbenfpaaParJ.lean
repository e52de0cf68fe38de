/- Walks of the parser: all words are read; the tree; what is open. -/
import Derived.Test.YtfcgmgpcbenfpaaProg
import Derived.WalkKit
import Derived.WalkSpells
import Derived.WalkLawsBesides
import Derived.Handy
import Derived.Lib.Hide
import Derived.Test.YtfcgmgpcbenfpaaParI
import Derived.Deep.QuietTactic
import Derived.BigQuiet
set_option linter.unusedVariables false
set_option linter.unusedSimpArgs false
namespace Go.Proofs.Ytfcgmgpcbenfpaa
open Go.RowKit SetP BrkP LexP AstP ParP
/-- What is handed back when all words are read. -/
def RetRead (s : ByteArray) (R : PR) (w : World) (e : Ending) (w' : World) : Prop :=
  match R with
  | .ok y => ∃ g, e = .returned (.tuple #[pp g, .int .i64 0, .int .i64 0]) ∧ rat w' w.heap.size g s s.size y ∧ Below w.heap.size w w'
  | .bad er p => e = .returned (.tuple #[.pointer none, .int .i64 er, .int .i64 p]) ∧ Below w.heap.size w w'
theorem rat_start (s : ByteArray) (w : World) : RAt ((w.alloc (.cells #[.int .i64 0, .int .i64 0] 45)).alloc (.cells #[.string s, .int .i64 0, .slice none 0 0, .slice (some ⟨w.heap.size, 0, none⟩) 1 1, .int .i64 0] 40)) w.heap.size (w.heap.size + 1) s 0 ps0 none 0 w.heap.size 1 := by
  refine ⟨Slab.newAt _ _ _ (by simp), World.ownsRow_nil _ _ _ _, ?_, (fun k hk => by cases hk), (fun h => by cases h), by omega, by omega⟩
  exact row_lit ((Slab.new w _ _).alloc _) (Nat.le_refl _) rfl (by decide)
set_option maxRecDepth 100000 in
set_option maxHeartbeats 2000000 in
theorem pread_any (s : ByteArray) (hs : s.size ≤ 200000) (w : World) : Calls Try.prog 9 #[.string s] w (RetRead s (readGo s 0 ps0) w) := by
  have H0 := Lib.hid (rat_start s w)
  have HB0 := Lib.hid (((Below.refl w.heap.size w).alloc (Nat.le_refl _) (.cells #[.int .i64 0, .int .i64 0] 45)).alloc (by simp) (.cells #[.string s, .int .i64 0, .slice none 0 0, .slice (some ⟨w.heap.size, 0, none⟩) 1 1, .int .i64 0] 40))
  go_enter Try.func9, Try.ntmps9
  go_wp2_with fail
  go_loopw [6] (fun _ wr => ∃ (k : Nat) (x : PS), k ≤ s.size ∧ Bnd x k ∧ readGo s 0 ps0 = readGo s k x ∧ rat wr w.heap.size (w.heap.size + 1) s k x ∧ Below w.heap.size w wr) (fun _ wr => s.size - (intOf ((wr.cell? ⟨w.heap.size + 1, 1, none⟩).getD undef)).toNat)
  case atStart => exact ⟨0, ps0, Nat.zero_le _, bnd0, rfl, ⟨_, _, _, _, H0.out⟩, HB0.out⟩
  case round =>
    clear H0 HB0
    obtain ⟨k, x, hk, hbd, hgo, ⟨Ao, co, gl, cl, hr⟩, hB⟩ := hrel
    have hcell : wr.cell? ⟨w.heap.size + 1, 1, none⟩ = some (.int .i64 (k : Int)) := hr.slab.cell 1
    have HM : Hid (s.size - (intOf ((wr.cell? ⟨w.heap.size + 1, 1, none⟩).getD undef)).toNat = s.size - k) := Lib.hid (by rw [hcell]; rfl)
    clear hcell
    have HGO := Lib.hid hgo; clear hgo
    have HB := Lib.hid hB; clear hB
    have C1 := left_any hr (by omega) (by omega)
    have HR := Lib.hid hr; clear hr
    by_cases hlt : k < s.size
    · have ht : decide (k < s.size) = true := by simpa using hlt
      rw [ht] at C1
      obtain ⟨o, lv, G⟩ := x
      have HBD := Lib.hid hbd
      cases lv with
      | nil => exact absurd rfl hbd.ne
      | cons pr v =>
      obtain ⟨p, r⟩ := pr
      have hvl : v.length ≤ 200000 := by have := hbd.lv; simp at this; omega
      clear hbd
      go_wp2_with fail
      refine C1.mono ?_
      rintro e1 w1 ⟨rfl, hb1⟩
      have h1 := HR.out.keep hb1
      have HB1 := Lib.hid (HB.out.trans (hb1.mono HR.out.le))
      have C2 := bars_any h1 (by omega) s[k]
      have hbt : bt s k = s[k] := bt_at s k hlt
      obtain ⟨er, her⟩ : ∃ er, barF ⟨o, (p, r) :: v, G⟩ (bt s k) = er := ⟨_, rfl⟩
      have her' : barF ⟨o, (p, r) :: v, G⟩ s[k] = er := by rw [← hbt]; exact her
      rw [her'] at C2
      have HER := Lib.hid her
      have HR1 := Lib.hid h1
      obtain ⟨c1, f1⟩ := h1.slab.facts
      unfold prCells at c1
      clear C1 hb1 h1 her her' hbt
      go_wp2_with fail
      refine C2.mono ?_
      rintro e2 w2 ⟨rfl, hb2⟩
      have h2 := HR1.out.keep hb2
      have HB2 := Lib.hid (HB1.out.trans (hb2.mono HR1.out.le))
      obtain ⟨c2, f2⟩ := h2.slab.facts
      unfold prCells at c2
      have HR2 := Lib.hid h2
      by_cases h0 : er = 0
      · have t0 : (er != 0) = false := by rw [h0]; rfl
        have hbar : barF ⟨o, (p, r) :: v, G⟩ (bt s k) = 0 := by rw [HER.out]; exact h0
        have HBAR := Lib.hid hbar
        clear C2 hb2 hbar h0
        by_cases he : (nextW s k).err = 0
        · obtain ⟨wd, e, hw, hst, g1, g2, hat⟩ := fit_ok hlt he
          have C3 := wnext_ok h2 (by omega) e wd hw hst
          have HT := Lib.hid (took (x := ⟨o, (p, r) :: v, G⟩) (by simp) hlt HBAR.out hw)
          have HGO2 := Lib.hid (HGO.out.trans (readGo_word hlt HBAR.out hw hst))
          clear h2 hw he HBAR c2 f2 hat hst c1 f1
          go_wp2_with fail
          refine C3.mono ?_
          rintro e3 w3 ⟨rfl, hb3, h3⟩
          have HB3 := Lib.hid (HB2.out.trans hb3)
          have hb4 := (Below.refl w3.heap.size w3).alloc (Nat.le_refl _) (.cells (wdCells wd) 51)
          have h4 := h3.keep hb4
          have HB4 := Lib.hid (HB3.out.alloc h3.le (.cells (wdCells wd) 51))
          have C4 := take_any h4 wd _ HT.out (HBD.out.more (by omega))
          clear C3 hb3 h3 hb4 h4
          obtain ⟨kd, at_, stop, f, n, m⟩ := wd
          go_wp2_with fail
          refine C4.mono ?_
          rintro e5 w5 ⟨rfl, hb5, h5⟩
          have HB5 := Lib.hid (HB4.out.trans hb5)
          have HR5 := Lib.hid h5
          clear C4 hb5 h5
          go_wp2
          go_roundw
          case rel => exact ⟨e, _, g2, (HBD.out.take HT.out).more g1, HGO2.out, HR5.out, HB5.out⟩
          case measure =>
            obtain ⟨A6, q6, g6, r6, h6⟩ := HR5.out
            have hc6 : w5.cell? ⟨w.heap.size + 1, 1, none⟩ = some (.int .i64 (e : Int)) := h6.slab.cell 1
            rw [HM.out, hc6]
            simp [intOf]; omega
        · have C3 := wnext_err h2 (by omega) he
          have hr2 := HGO.out.trans (readGo_err hlt HBAR.out he)
          obtain ⟨⟨⟨kd, at_, stop, f, n, m⟩, er2, pl⟩, hw⟩ : ∃ R, nextW s k = R := ⟨_, rfl⟩
          rw [hw] at C3 hr2 he
          have t1 : (er2 != 0) = true := bne_iff_ne.2 he
          have HRR := Lib.hid hr2
          have HR2' := Lib.hid h2
          clear h2 hw he HBAR c2 f2 hr2
          go_wp2_with fail
          refine C3.mono ?_
          rintro e3 w3 ⟨rfl, hb3⟩
          have HB3 := Lib.hid (HB2.out.trans (hb3.mono HR2.out.le))
          clear C3 hb3
          go_wp2
          refine bodyPost_ret (v := .tuple #[.pointer none, .int .i64 er2, .int .i64 pl]) (by simp [results, Try.results9, go_sem]) rfl (by show RetRead s (readGo s 0 ps0) w _ _; rw [HRR.out]; exact ⟨rfl, HB3.out.alloc (HB3.out.size) _⟩)
      · have t0 : (er != 0) = true := bne_iff_ne.2 h0
        have hr2 := HGO.out.trans (readGo_bar hlt (by rw [HER.out]; exact h0))
        rw [HER.out] at hr2
        have HRR := Lib.hid hr2
        clear C2 hb2 h2 h0 hr2
        go_wp2_with fail
        go_quiet (fail)
        go_wp2
        refine bodyPost_ret (v := .tuple #[.pointer none, .int .i64 er, .int .i64 ((k : Int) + 1)]) (by simp [results, Try.results9, go_sem]) rfl (by show RetRead s (readGo s 0 ps0) w _ _; rw [HRR.out]; exact ⟨rfl, below_drewN HB2.out _⟩)
    · have ht : decide (k < s.size) = false := by simpa using hlt
      rw [ht] at C1
      have hks : k = s.size := by omega
      have hr2 := HGO.out.trans (readGo_end (x := x) (by omega : s.size ≤ k))
      have HRR := Lib.hid hr2
      subst hks
      clear hr2
      go_wp2_with fail
      refine C1.mono ?_
      rintro e1 w1 ⟨rfl, hb1⟩
      have HR1 := Lib.hid (HR.out.keep hb1)
      have HB1 := Lib.hid (HB.out.trans (hb1.mono HR.out.le))
      clear C1 hb1
      go_wp2
      refine bodyPost_ret (v := .tuple #[pp (w.heap.size + 1), .int .i64 0, .int .i64 0]) (by simp [results, Try.results9, go_sem]) rfl (by show RetRead s (readGo s 0 ps0) w _ _; rw [HRR.out]; exact ⟨_, rfl, ⟨_, _, _, _, HR1.out⟩, HB1.out⟩)
end Go.Proofs.Ytfcgmgpcbenfpaa
