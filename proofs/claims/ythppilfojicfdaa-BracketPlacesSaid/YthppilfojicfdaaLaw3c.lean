/- BracketPlaces, walked. -/
import Derived.Test.YthppilfojicfdaaProg
import Derived.WalkKit
import Derived.WalkSpells
import Derived.WalkLawsBesides
import Derived.Handy
import Derived.Lib.Hide
import Derived.Test.YthppilfojicfdaaLaw3
import Derived.Test.YthppilfojicfdaaBrkR
import Derived.Test.YthppilfojicfdaaEqA
import Derived.Deep.QuietTactic
import Derived.Lib.QuietBelow
import Derived.BigQuiet
namespace Go.Proofs.Ythppilfojicfdaa
open Go.RowKit SetP BrkP Go.Sort
attribute [local go_sem] run_eq_set
def badB (b : UInt8) : Bool := b == 93 || (b == 91 || (b == 94 || b == 45))
theorem conv_text3 (w : World) (a : Addr) (k cap : Nat) (l : List UInt8) (hk : l.length = k) (hc : ∀ j (hj : j < l.length), w.cell? (a.add j) = some (.int .u8 (l[j].toNat : Int))) :
    (convert 25 9 (.slice (some a) k cap)).run Try.prog w = .ok (.string ⟨l.toArray⟩) w := by
  subst hk
  exact run_convert_bytes_back w 25 9 5 a cap l Try.underlying25 Try.underlying5 Try.underlying9 hc
set_option maxRecDepth 100000 in
set_option maxHeartbeats 2000000 in
theorem lbad_any (b : UInt8) (w : World) : Calls Try.prog 49 #[.int .u8 (b.toNat : Int)] w fun e w' => e = .returned (.bool (badB b)) ∧ w' = w := by
  have hb : b.toNat < 256 := b.toNat_lt
  have key : ∀ k : UInt8, (b == k) = ((b.toNat : Int) == (k.toNat : Int)) := fun k => by
    rw [Bool.eq_iff_iff]; simp [← UInt8.toNat_inj]; omega
  have hm : badB b = (((b.toNat : Int) == 93) || (((b.toNat : Int) == 91) || (((b.toNat : Int) == 94) || ((b.toNat : Int) == 45)))) := by
    unfold badB; rw [key 93, key 91, key 94, key 45]; rfl
  rw [hm]
  clear hm key
  go_enter Try.func49, Try.ntmps49
  cases h1 : ((b.toNat : Int) == 93) with
  | true => go_wp2; go_ret; exact ⟨rfl, rfl⟩
  | false =>
  cases h2 : ((b.toNat : Int) == 91) with
  | true => go_wp2; go_ret; exact ⟨rfl, rfl⟩
  | false =>
  cases h3 : ((b.toNat : Int) == 94) with
  | true => go_wp2; go_ret; exact ⟨rfl, rfl⟩
  | false => go_wp2; go_ret; exact ⟨rfl, rfl⟩
theorem badB_no {b : UInt8} (h : badB b = false) : (b == 91) = false ∧ (b == 94) = false ∧ (b == 93) = false := by
  unfold badB at h
  simp only [Bool.or_eq_false_iff] at h
  exact ⟨h.2.1, h.2.2.1, h.1⟩
def lessB (hi lo : UInt8) : Bool := decide (hi.toNat < lo.toNat)
set_option maxRecDepth 100000 in
set_option maxHeartbeats 2000000 in
theorem places3_any (A : ByteArray) (lo hi : UInt8) (w : World) :
    Calls Try.prog 13 #[.string A, .int .u8 (lo.toNat : Int), .int .u8 (hi.toNat : Int)] w fun e w' => e = .returned (.bool true) ∧ Below w.heap.size w w' := by
  have K1 := lbad_any lo
  have K2 := lbad_any hi
  have KS := sure3_any
  cases h : decide (100 < (A.size : Int)) with
  | true =>
    go_enter Try.func13, Try.ntmps13
    go_wp2_with fail
    refine (KS _).mono ?_
    rintro e1 w1 ⟨rfl, hb1⟩
    go_wp2
    go_ret
    exact ⟨rfl, hb1⟩
  | false =>
  have hs : A.size ≤ 100 := by simp at h; omega
  cases hl : badB lo with
  | true =>
    rw [hl] at K1
    clear hl
    go_enter Try.func13, Try.ntmps13
    go_wp2_with fail
    refine (K1 _).mono ?_
    rintro e1 w1 ⟨rfl, rfl⟩
    go_wp2_with fail
    refine (KS _).mono ?_
    rintro e1 w1 ⟨rfl, hb1⟩
    go_wp2
    go_ret
    exact ⟨rfl, hb1⟩
  | false =>
  rw [hl] at K1
  obtain ⟨l1, l2, l3⟩ := badB_no hl
  clear hl
  cases hh : badB hi with
  | true =>
    rw [hh] at K2
    clear hh l1 l2 l3
    go_enter Try.func13, Try.ntmps13
    go_wp2_with fail
    refine (K1 _).mono ?_
    rintro e1 w1 ⟨rfl, rfl⟩
    go_wp2_with fail
    refine (K2 _).mono ?_
    rintro e1 w1 ⟨rfl, rfl⟩
    go_wp2_with fail
    refine (KS _).mono ?_
    rintro e1 w1 ⟨rfl, hb1⟩
    go_wp2
    go_ret
    exact ⟨rfl, hb1⟩
  | false =>
  rw [hh] at K2
  obtain ⟨h1, h4, h2⟩ := badB_no hh
  clear hh
  have hs1 : A ++ ⟨#[91]⟩ ++ ⟨[lo, 45, hi].toArray⟩ ++ ⟨#[93]⟩ = A ++ ⟨#[91, lo, 45, hi, 93]⟩ := bytes_ext (by simp [ByteArray.data_append])
  have hs2 : A ++ ⟨#[91, 94]⟩ ++ ⟨[lo, 45, hi].toArray⟩ ++ ⟨#[93]⟩ = A ++ ⟨#[91, 94, lo, 45, hi, 93]⟩ := bytes_ext (by simp [ByteArray.data_append])
  obtain ⟨S1, hS1⟩ : ∃ S, A ++ (⟨#[91, lo, 45, hi, 93]⟩ : ByteArray) = S := ⟨_, rfl⟩
  obtain ⟨S2, hS2⟩ : ∃ S, A ++ (⟨#[91, 94, lo, 45, hi, 93]⟩ : ByteArray) = S := ⟨_, rfl⟩
  have C1 := bread_any S1 A.size (by rw [← hS1, ByteArray.size_append', show (⟨#[91, lo, 45, hi, 93]⟩ : ByteArray).size = 5 from rfl]; omega)
  have C2 := bread_any S2 A.size (by rw [← hS2, ByteArray.size_append', show (⟨#[91, 94, lo, 45, hi, 93]⟩ : ByteArray).size = 6 from rfl]; omega)
  have R1 := place_one A lo hi l1 l2 h1 h2
  have R2 := place_two A lo hi l1 h1 h2
  rw [hS1] at R1 hs1
  rw [hS2] at R2 hs2
  rw [R1] at C1
  rw [R2] at C2
  have HS1 := Lib.hid hs1
  have HS2 := Lib.hid hs2
  clear R1 R2 hS1 hS2 hs1 hs2
  have ll : lo.toNat < 256 := lo.toNat_lt
  have hl' : hi.toNat < 256 := hi.toNat_lt
  clear l1 l2 l3 h1 h2 h4
  cases hlt : decide (hi.toNat < lo.toNat) with
  | true =>
    have k : hi.toNat < lo.toNat := by simpa using hlt
    rw [if_pos k] at C1 C2
    clear k
    go_enter Try.func13, Try.ntmps13
    go_wp2_with fail
    refine (K1 _).mono ?_
    rintro e1 w1 ⟨rfl, rfl⟩
    go_wp2_with fail
    refine (K2 _).mono ?_
    rintro e1 w1 ⟨rfl, rfl⟩
    go_wp2_with fail
    rw [conv_text3 _ ⟨_, 0, none⟩ 3 _ [lo, 45, hi] rfl ?c1]
    case c1 => intro j hj
               have : j = 0 ∨ j = 1 ∨ j = 2 := by simp at hj; omega
               rcases this with rfl | rfl | rfl
               · exact (Slab.cell (Slab.newAt _ _ _ (by simp)) 0).trans rfl
               · exact (Slab.cell (Slab.newAt _ _ _ (by simp)) 1).trans rfl
               · exact (Slab.cell (Slab.newAt _ _ _ (by simp)) 2).trans rfl
    have HB1 := Lib.hid ((Below.refl _ _).alloc (Nat.le_refl _) (.cells #[.int .u8 lo.toNat, .int .u8 45, .int .u8 hi.toNat] 5) : Below w1.heap.size w1 _)
    go_wp2_with fail
    rw [HS1.out]
    refine (C1 _).mono ?_
    rintro e2 w2 ⟨rfl, hb2⟩
    have o2 : Slab (w2.alloc (.cells (cells4 (fun _ => false)) 24)) w2.heap.size (cells4 (fun _ => false)) 24 := Slab.new _ _ _
    have HB2' := below_then HB1.out hb2
    have HB2 := Lib.hid (HB2'.alloc HB2'.size (.cells (cells4 (fun _ => false)) 24))
    clear hb2 HB2' HB1 C1
    go_wp2_with fail
    rw [conv_text3 _ ⟨_, 0, none⟩ 3 _ [lo, 45, hi] rfl ?c2]
    case c2 => intro j hj
               have : j = 0 ∨ j = 1 ∨ j = 2 := by simp at hj; omega
               rcases this with rfl | rfl | rfl
               · exact (Slab.cell (Slab.newAt _ _ _ (by simp)) 0).trans rfl
               · exact (Slab.cell (Slab.newAt _ _ _ (by simp)) 1).trans rfl
               · exact (Slab.cell (Slab.newAt _ _ _ (by simp)) 2).trans rfl
    have o3 := o2.alloc (.cells #[.int .u8 lo.toNat, .int .u8 45, .int .u8 hi.toNat] 5)
    have HB3 := Lib.hid (HB2.out.alloc HB2.out.size (.cells #[.int .u8 lo.toNat, .int .u8 45, .int .u8 hi.toNat] 5))
    clear o2 HB2
    go_wp2_with fail
    rw [HS2.out]
    refine (C2 _).mono ?_
    rintro e4 w4 ⟨rfl, hb4⟩
    have o4 := (o3.call hb4).alloc (.cells (cells4 (fun _ => false)) 24)
    have p4 : Slab (w4.alloc (.cells (cells4 (fun _ => false)) 24)) w4.heap.size (cells4 (fun _ => false)) 24 := Slab.new _ _ _
    have HB4' := below_then HB3.out hb4
    have HB4 := Lib.hid (HB4'.alloc HB4'.size (.cells (cells4 (fun _ => false)) 24))
    clear hb4 HB4' HB3 C2 o3
    clear o4 p4
    go_wp2_with fail
    refine (KS _).mono ?_
    rintro e5 w5 ⟨rfl, hb5⟩
    have HB5 := below_then HB4.out hb5
    go_wp2
    go_ret
    exact ⟨rfl, HB5⟩
  | false =>
    have k : ¬ hi.toNat < lo.toNat := by simpa using hlt
    rw [if_neg k] at C1 C2
    clear k
    have KR := range_any lo.toNat hi.toNat (by omega) (by omega) (by omega) (by omega)
    have eF : (fun x => false || rangeF lo.toNat hi.toNat x) = rangeF lo.toNat hi.toNat := by funext x; simp
    have eG : (fun x => !(false || rangeF lo.toNat hi.toNat x)) = fun x => !rangeF lo.toNat hi.toNat x := by funext x; simp
    rw [eF] at C1
    rw [eG] at C2
    clear eF eG
    generalize rangeF lo.toNat hi.toNat = F at *
    have KN := not_any F
    generalize (fun x => !F x) = G at *
    have s1 : same F F = true := same_iff.2 fun _ _ => rfl
    have s2 : same G G = true := same_iff.2 fun _ _ => rfl
    go_enter Try.func13, Try.ntmps13
    go_wp2_with fail
    refine (K1 _).mono ?_
    rintro e1 w1 ⟨rfl, rfl⟩
    go_wp2_with fail
    refine (K2 _).mono ?_
    rintro e1 w1 ⟨rfl, rfl⟩
    go_wp2_with fail
    rw [conv_text3 _ ⟨_, 0, none⟩ 3 _ [lo, 45, hi] rfl ?c1]
    case c1 => intro j hj
               have : j = 0 ∨ j = 1 ∨ j = 2 := by simp at hj; omega
               rcases this with rfl | rfl | rfl
               · exact (Slab.cell (Slab.newAt _ _ _ (by simp)) 0).trans rfl
               · exact (Slab.cell (Slab.newAt _ _ _ (by simp)) 1).trans rfl
               · exact (Slab.cell (Slab.newAt _ _ _ (by simp)) 2).trans rfl
    have HB1 := Lib.hid ((Below.refl _ _).alloc (Nat.le_refl _) (.cells #[.int .u8 lo.toNat, .int .u8 45, .int .u8 hi.toNat] 5) : Below w1.heap.size w1 _)
    go_wp2_with fail
    rw [HS1.out]
    refine (C1 _).mono ?_
    rintro e2 w2 ⟨rfl, hb2⟩
    have o2 : Slab (w2.alloc (.cells (cells4 (F)) 24)) w2.heap.size (cells4 (F)) 24 := Slab.new _ _ _
    have HB2' := below_then HB1.out hb2
    have HB2 := Lib.hid (HB2'.alloc HB2'.size (.cells (cells4 (F)) 24))
    clear hb2 HB2' HB1 C1
    go_wp2_with fail
    rw [conv_text3 _ ⟨_, 0, none⟩ 3 _ [lo, 45, hi] rfl ?c2]
    case c2 => intro j hj
               have : j = 0 ∨ j = 1 ∨ j = 2 := by simp at hj; omega
               rcases this with rfl | rfl | rfl
               · exact (Slab.cell (Slab.newAt _ _ _ (by simp)) 0).trans rfl
               · exact (Slab.cell (Slab.newAt _ _ _ (by simp)) 1).trans rfl
               · exact (Slab.cell (Slab.newAt _ _ _ (by simp)) 2).trans rfl
    have o3 := o2.alloc (.cells #[.int .u8 lo.toNat, .int .u8 45, .int .u8 hi.toNat] 5)
    have HB3 := Lib.hid (HB2.out.alloc HB2.out.size (.cells #[.int .u8 lo.toNat, .int .u8 45, .int .u8 hi.toNat] 5))
    clear o2 HB2
    go_wp2_with fail
    rw [HS2.out]
    refine (C2 _).mono ?_
    rintro e4 w4 ⟨rfl, hb4⟩
    have o4 := (o3.call hb4).alloc (.cells (cells4 (G)) 24)
    have p4 : Slab (w4.alloc (.cells (cells4 (G)) 24)) w4.heap.size (cells4 (G)) 24 := Slab.new _ _ _
    have HB4' := below_then HB3.out hb4
    have HB4 := Lib.hid (HB4'.alloc HB4'.size (.cells (cells4 (G)) 24))
    clear hb4 HB4' HB3 C2 o3
    go_wp2_with fail
    have hq : ∀ d os i, (grow (redrawn (w4.alloc (.cells (cells4 G) 24)) d) os).cell? _ = _ := fun d os i => (o4.below (below_regrown _ d os) o4.lt).cell i
    have hp : ∀ d os i, (grow (redrawn (w4.alloc (.cells (cells4 G) 24)) d) os).cell? _ = _ := fun d os i => (p4.below (below_regrown _ d os) p4.lt).cell i
    clear o4 p4
    refine wp_region_quiet_below (by kernel_rfl) (by kernel_rfl) ?_
    repeat (first | go_big_quiet_step ((first | (go_at_call 25; exact Calls.regrown_of (KR _)) | (go_at_call 34; exact Calls.regrown_of (KN _)) | (go_at_call 46; exact Calls.regrown_of (KS _)))) | quiet_step ((first | (go_at_call 25; exact Calls.regrown_of (KR _)) | (go_at_call 34; exact Calls.regrown_of (KN _)) | (go_at_call 46; exact Calls.regrown_of (KS _)))))
    refine wpQuiet_nil ?_
    intro _ hw'
    obtain ⟨⟨qd, qos⟩, hw''⟩ := hw'
    subst hw''
    have hb := below_then HB4.out (below_regrown _ qd qos)
    go_wp2
    go_ret
    exact ⟨rfl, hb⟩
end Go.Proofs.Ythppilfojicfdaa
