/- Walks: the document's Read, numbers as text. -/
import Derived.Test.YtgkfdjfoakbibaaProg
import Derived.WalkKit
import Derived.WalkSpells
import Derived.WalkLawsBesides
import Derived.Handy
import Derived.Lib.Hide
import Derived.Test.YtgkfdjfoakbibaaBraceD
namespace Go.Proofs.Ytgkfdjfoakbibaa
open Go.RowKit BraceP

set_option maxRecDepth 100000 in
set_option maxHeartbeats 2000000 in
theorem rread_any (s : ByteArray) (i : Int) (hs : s.size ≤ 4611686018427387904) (w : World) :
    Calls Try.prog 15 #[.string s, .int .i64 i] w fun e w' => e = .returned (resR (readF s.data.toList i)) ∧ w' = w := by
  obtain ⟨T, hT⟩ : ∃ T, readF s.data.toList i = T := ⟨_, rfl⟩
  rw [hT]
  go_enter Try.func15, Try.ntmps15
  by_cases h0 : i < 0
  · have e0 : decide (i < 0) = true := by simpa using h0
    have E0 := Lib.hid e0
    have hT' : T = (0, 0, 0, 1, 0) := by rw [← hT]; unfold readF; rw [if_pos h0]
    have HT := Lib.hid hT'; clear hT hT' h0
    go_wp2
    refine bodyPost_ret (v := resR (0, 0, 0, 1, 0)) (by simp [results, Try.results15, go_sem, *]) rfl ⟨ret_v (congrArg resR ?_), rfl⟩
    rw [HT.out]
  · have e0 : decide (i < 0) = false := by simpa using h0
    have E0 := Lib.hid e0
    obtain ⟨i, rfl⟩ := Int.eq_ofNat_of_zero_le (by omega : 0 ≤ i)
    clear h0 e0
    by_cases h1 : s.size ≤ i
    · have e1 : decide (s.size ≤ i) = true := by simpa using h1
      have hT' : T = (0, 0, 0, 1, 0) := by
        rw [← hT]; unfold readF
        rw [if_neg (by omega), List.drop_eq_nil_of_le (by simpa using h1)]
      have HT := Lib.hid hT'; clear hT hT' h1
      go_wp2
      refine bodyPost_ret (v := resR (0, 0, 0, 1, 0)) (by simp [results, Try.results15, go_sem, *]) rfl ⟨ret_v (congrArg resR ?_), rfl⟩
      rw [HT.out]
    · have e1 : decide (s.size ≤ i) = false := by simpa using h1
      have h1' : i < s.size := by omega
      have hT' : T = rd0 s[i] (s.data.toList.drop (i + 1)) (i + 1) := by
        rw [← hT]; unfold readF
        rw [if_neg (by omega), Int.toNat_natCast, drop_cons_at s i h1']
      have HT := Lib.hid hT'; clear hT hT'
      have k42 := Lib.hid (byte_eq s[i] 42 (by omega))
      have k43 := Lib.hid (byte_eq s[i] 43 (by omega))
      have k63 := Lib.hid (byte_eq s[i] 63 (by omega))
      have k123 := Lib.hid (byte_eq s[i] 123 (by omega))
      cases e42 : ((s[i].toNat : Int) == 42) with
      | true =>
        have E42 := Lib.hid e42
        go_wp2
        refine bodyPost_ret (v := resR (0, -1, (i : Int) + 1, 0, 0)) (by simp [results, Try.results15, go_sem, *]) rfl ⟨ret_v (congrArg resR ?_), rfl⟩
        rw [HT.out, rd0]; erw [k42.out, E42.out]; rfl
      | false =>
      have E42 := Lib.hid e42
      cases e43 : ((s[i].toNat : Int) == 43) with
      | true =>
        have E43 := Lib.hid e43
        go_wp2
        refine bodyPost_ret (v := resR (1, -1, (i : Int) + 1, 0, 0)) (by simp [results, Try.results15, go_sem, *]) rfl ⟨ret_v (congrArg resR ?_), rfl⟩
        rw [HT.out, rd0]; erw [k42.out, E42.out, k43.out, E43.out]; rfl
      | false =>
      have E43 := Lib.hid e43
      cases e63 : ((s[i].toNat : Int) == 63) with
      | true =>
        have E63 := Lib.hid e63
        go_wp2
        refine bodyPost_ret (v := resR (0, 1, (i : Int) + 1, 0, 0)) (by simp [results, Try.results15, go_sem, *]) rfl ⟨ret_v (congrArg resR ?_), rfl⟩
        rw [HT.out, rd0]; erw [k42.out, E42.out, k43.out, E43.out, k63.out, E63.out]; rfl
      | false =>
      have E63 := Lib.hid e63
      cases e123 : ((s[i].toNat : Int) == 123) with
      | true =>
        have E123 := Lib.hid e123
        have hT' : rd1 (s.data.toList.drop (i + 1)) ((i : Int) + 1) 0 0 = T := by
          rw [HT.out, rd0]; erw [k42.out, E42.out, k43.out, E43.out, k63.out, E63.out, k123.out, E123.out]; rfl
        have HS := Lib.hid hT'; clear hT'
        go_wp2_with fail
        refine (braces_any s (i : Int) (by omega) (by omega) hs _).mono ?_
        rintro e3 w3 ⟨he, rfl⟩
        rw [Int.toNat_natCast, HS.out] at he
        subst he
        go_wp2
        refine bodyPost_ret (v := resR T) (by simp [results, Try.results15, go_sem]) rfl ⟨rfl, rfl⟩
      | false =>
      have E123 := Lib.hid e123
      go_wp2
      refine bodyPost_ret (v := resR (0, 0, 0, 1, 0)) (by simp [results, Try.results15, go_sem, *]) rfl ⟨ret_v (congrArg resR ?_), rfl⟩
      rw [HT.out, rd0]; erw [k42.out, E42.out, k43.out, E43.out, k63.out, E63.out, k123.out, E123.out]; rfl

/-- A number of at most two digits as text. -/
def digF (n : Int) : List UInt8 := if n < 10 then [UInt8.ofNat (48 + n.toNat)] else [UInt8.ofNat (48 + n.toNat / 10), UInt8.ofNat (48 + n.toNat % 10)]
abbrev strV (l : List UInt8) : Value := .string ⟨l.toArray⟩
theorem conv_text (w : World) (a : Addr) (k cap : Nat) (l : List UInt8) (hk : l.length = k) (hc : ∀ j (hj : j < l.length), w.cell? (a.add j) = some (.int .u8 (l[j].toNat : Int))) :
    (convert 50 9 (.slice (some a) k cap)).run Try.prog w = .ok (.string ⟨l.toArray⟩) w := by
  subst hk
  exact run_convert_bytes_back w 50 9 5 a cap l Try.underlying50 Try.underlying5 Try.underlying9 hc
theorem of_nat_cell {x : Nat} {c : UInt8} (hc : UInt8.ofNat x = c) (hx : x < 256) (y : Int) (hy : y = x) : (some (Value.int .u8 y) : Option Value) = some (.int .u8 c.toNat) := by
  rw [hy, ← hc, UInt8.toNat_ofNat_of_lt' (by simpa using hx)]
set_option maxRecDepth 100000 in
set_option maxHeartbeats 2000000 in
theorem rdigits_any (n : Int) (h0 : 0 ≤ n) (h1 : n ≤ 99) (w : World) :
    Calls Try.prog 37 #[.int .i64 n] w fun e w' => e = .returned (strV (digF n)) ∧ Below w.heap.size w w' := by
  go_enter Try.func37, Try.ntmps37
  by_cases hn : n < 10
  · have e1 : decide (10 ≤ n) = false := by simpa using hn
    have hd : digF n = [UInt8.ofNat (48 + n.toNat)] := if_pos hn
    obtain ⟨c, hc⟩ : ∃ c, UInt8.ofNat (48 + n.toNat) = c := ⟨_, rfl⟩
    rw [hc] at hd
    have HD := Lib.hid hd; clear hd hn
    have HC := Lib.hid hc; clear hc
    go_wp2
    rw [conv_text _ ⟨_, 0, none⟩ 1 _ ([c]) rfl ?_]
    · go_wp2
      go_ret
      exact ⟨by rw [HD.out]; rfl, by (repeat' (first | (with_reducible exact Below.refl _ _) | (with_reducible assumption) | (with_reducible refine Below.alloc ?_ ?_ _) | (with_reducible refine Below.drew ?_) | (with_reducible refine below_set ?_ ?_ _) | (with_reducible refine below_call ?_ ?_ (by assumption)) | (with_reducible exact Below.size (by assumption)) | omega | go_size))⟩
    · intro j hj
      obtain rfl : j = 0 := by simpa using hj
      refine (World.cell?_alloc_new _ _ _ _).trans ?_
      exact of_nat_cell HC.out (by omega) _ (by omega)
  · have e1 : decide (10 ≤ n) = true := by simpa using hn
    have hd : digF n = [UInt8.ofNat (48 + n.toNat / 10), UInt8.ofNat (48 + n.toNat % 10)] := if_neg hn
    obtain ⟨c, hc⟩ : ∃ c, UInt8.ofNat (48 + n.toNat / 10) = c := ⟨_, rfl⟩
    obtain ⟨d, he⟩ : ∃ d, UInt8.ofNat (48 + n.toNat % 10) = d := ⟨_, rfl⟩
    rw [hc, he] at hd
    have HD := Lib.hid hd; clear hd hn
    have HC := Lib.hid hc; clear hc
    have HE := Lib.hid he; clear he
    go_wp2
    rw [conv_text _ ⟨_, 0, none⟩ 2 _ ([c, d]) rfl ?_]
    · go_wp2
      go_ret
      exact ⟨by rw [HD.out]; rfl, by (repeat' (first | (with_reducible exact Below.refl _ _) | (with_reducible assumption) | (with_reducible refine Below.alloc ?_ ?_ _) | (with_reducible refine Below.drew ?_) | (with_reducible refine below_set ?_ ?_ _) | (with_reducible refine below_call ?_ ?_ (by assumption)) | (with_reducible exact Below.size (by assumption)) | omega | go_size))⟩
    · intro j hj
      have : j = 0 ∨ j = 1 := by simp at hj; omega
      rcases this with rfl | rfl
      · refine (World.cell?_alloc_new _ _ _ _).trans ?_
        exact of_nat_cell HC.out (by omega) _ (by omega)
      · refine (World.cell?_alloc_new _ _ _ _).trans ?_
        exact of_nat_cell HE.out (by omega) _ (by omega)
set_option maxRecDepth 100000 in
set_option maxHeartbeats 2000000 in
theorem ldigits_any (n : Int) (h0 : 0 ≤ n) (h1 : n ≤ 99) (w : World) :
    Calls Try.prog 18 #[.int .i64 n] w fun e w' => e = .returned (strV (digF n)) ∧ Below w.heap.size w w' := by
  go_enter Try.func18, Try.ntmps18
  by_cases hn : n < 10
  · have e1 : decide (n < 10) = true := by simpa using hn
    have hd : digF n = [UInt8.ofNat (48 + n.toNat)] := if_pos hn
    obtain ⟨c, hc⟩ : ∃ c, UInt8.ofNat (48 + n.toNat) = c := ⟨_, rfl⟩
    rw [hc] at hd
    have HD := Lib.hid hd; clear hd hn
    have HC := Lib.hid hc; clear hc
    go_wp2
    rw [conv_text _ ⟨_, 0, none⟩ 1 _ ([c]) rfl ?_]
    · go_wp2
      go_ret
      exact ⟨by rw [HD.out]; rfl, by (repeat' (first | (with_reducible exact Below.refl _ _) | (with_reducible assumption) | (with_reducible refine Below.alloc ?_ ?_ _) | (with_reducible refine Below.drew ?_) | (with_reducible refine below_set ?_ ?_ _) | (with_reducible refine below_call ?_ ?_ (by assumption)) | (with_reducible exact Below.size (by assumption)) | omega | go_size))⟩
    · intro j hj
      obtain rfl : j = 0 := by simpa using hj
      refine (World.cell?_alloc_new _ _ _ _).trans ?_
      exact of_nat_cell HC.out (by omega) _ (by omega)
  · have e1 : decide (n < 10) = false := by simpa using hn
    have hd : digF n = [UInt8.ofNat (48 + n.toNat / 10), UInt8.ofNat (48 + n.toNat % 10)] := if_neg hn
    obtain ⟨c, hc⟩ : ∃ c, UInt8.ofNat (48 + n.toNat / 10) = c := ⟨_, rfl⟩
    obtain ⟨d, he⟩ : ∃ d, UInt8.ofNat (48 + n.toNat % 10) = d := ⟨_, rfl⟩
    rw [hc, he] at hd
    have HD := Lib.hid hd; clear hd hn
    have HC := Lib.hid hc; clear hc
    have HE := Lib.hid he; clear he
    go_wp2
    rw [conv_text _ ⟨_, 0, none⟩ 2 _ ([c, d]) rfl ?_]
    · go_wp2
      go_ret
      exact ⟨by rw [HD.out]; rfl, by (repeat' (first | (with_reducible exact Below.refl _ _) | (with_reducible assumption) | (with_reducible refine Below.alloc ?_ ?_ _) | (with_reducible refine Below.drew ?_) | (with_reducible refine below_set ?_ ?_ _) | (with_reducible refine below_call ?_ ?_ (by assumption)) | (with_reducible exact Below.size (by assumption)) | omega | go_size))⟩
    · intro j hj
      have : j = 0 ∨ j = 1 := by simp at hj; omega
      rcases this with rfl | rfl
      · refine (World.cell?_alloc_new _ _ _ _).trans ?_
        exact of_nat_cell HC.out (by omega) _ (by omega)
      · refine (World.cell?_alloc_new _ _ _ _).trans ?_
        exact of_nat_cell HE.out (by omega) _ (by omega)
set_option maxRecDepth 100000 in
set_option maxHeartbeats 2000000 in
theorem digits1_any (n : Int) (h0 : 0 ≤ n) (h1 : n < 10) (w : World) :
    Calls Try.prog 35 #[.int .i64 n] w fun e w' => e = .returned (strV [UInt8.ofNat (48 + n.toNat)]) ∧ Below w.heap.size w w' := by
  obtain ⟨c, hc⟩ : ∃ c, UInt8.ofNat (48 + n.toNat) = c := ⟨_, rfl⟩
  rw [hc]
  have HC := Lib.hid hc; clear hc
  go_enter Try.func35, Try.ntmps35
  have e1 : decide (n < 10) = true := by simpa using h1
  go_wp2
  rw [conv_text _ ⟨_, 0, none⟩ 1 _ ([c]) rfl ?_]
  · go_wp2
    go_ret
    exact ⟨rfl, by (repeat' (first | (with_reducible exact Below.refl _ _) | (with_reducible assumption) | (with_reducible refine Below.alloc ?_ ?_ _) | (with_reducible refine Below.drew ?_) | (with_reducible refine below_set ?_ ?_ _) | (with_reducible refine below_call ?_ ?_ (by assumption)) | (with_reducible exact Below.size (by assumption)) | omega | go_size))⟩
  · intro j hj
    obtain rfl : j = 0 := by simpa using hj
    refine (World.cell?_alloc_new _ _ _ _).trans ?_
    exact of_nat_cell HC.out (by omega) _ (by omega)
set_option maxRecDepth 100000 in
set_option maxHeartbeats 2000000 in
theorem digits_any (n : Int) (h0 : 0 ≤ n) (h1 : n ≤ 99) (w : World) :
    Calls Try.prog 35 #[.int .i64 n] w fun e w' => e = .returned (strV (digF n)) ∧ Below w.heap.size w w' := by
  by_cases hn : n < 10
  · rw [show digF n = [UInt8.ofNat (48 + n.toNat)] from if_pos hn]
    exact digits1_any n h0 hn w
  · have e1 : decide (n < 10) = false := by simpa using hn
    have hd : digF n = [UInt8.ofNat (48 + (n / 10).toNat), UInt8.ofNat (48 + (n % 10).toNat)] := by
      rw [digF, if_neg hn, show n.toNat / 10 = (n / 10).toNat by omega, show n.toNat % 10 = (n % 10).toNat by omega]
    obtain ⟨c, hc⟩ : ∃ c, UInt8.ofNat (48 + (n / 10).toNat) = c := ⟨_, rfl⟩
    obtain ⟨d, he⟩ : ∃ d, UInt8.ofNat (48 + (n % 10).toNat) = d := ⟨_, rfl⟩
    have H1 := digits1_any (n / 10) (by omega) (by omega)
    have H2 := digits1_any (n % 10) (by omega) (by omega)
    rw [hc] at hd H1
    rw [he] at hd H2
    have HD := Lib.hid hd; clear hd hn hc he
    go_enter Try.func35, Try.ntmps35
    go_wp2_with fail
    refine (H1 _).mono ?_
    rintro e1 w1 ⟨rfl, hb1⟩
    go_wp2_with fail
    refine (H2 _).mono ?_
    rintro e2 w2 ⟨rfl, hb2⟩
    go_wp2
    go_ret
    exact ⟨by rw [HD.out]; simp [ByteArray.mk_append_mk], below_then hb1 hb2⟩

def rightB (n m : Int) : Bool := decide (0 ≤ n) && (decide (n ≤ 99) && (m == -1 || (decide (n ≤ m) && decide (m ≤ 99))))
def textF (n m : Int) : List UInt8 :=
  if rightB n m then
    if n == 0 && m == -1 then [42] else if n == 1 && m == -1 then [43] else if n == 0 && m == 1 then [63]
    else if n == m then 123 :: (digF n ++ [125]) else if m == -1 then 123 :: (digF n ++ [44, 125]) else 123 :: (digF n ++ (44 :: (digF m ++ [125])))
  else []
set_option maxRecDepth 100000 in
set_option maxHeartbeats 2000000 in
theorem rright_any (n m : Int) (w : World) : Calls Try.prog 36 #[.int .i64 n, .int .i64 m] w fun e w' => e = .returned (.bool (rightB n m)) ∧ w = w' := by
  have hd : rightB n m = (decide (0 ≤ n) && (decide (n ≤ 99) && (m == -1 || (decide (n ≤ m) && decide (m ≤ 99))))) := rfl
  have HD := Lib.hid hd; clear hd
  go_enter Try.func36, Try.ntmps36
  cases e0 : decide (0 ≤ n) with
  | false => go_wp2; go_ret; exact ⟨by rw [HD.out]; simp [*], rfl⟩
  | true =>
  cases e1 : decide (n ≤ 99) with
  | false => go_wp2; go_ret; exact ⟨by rw [HD.out]; simp [*], rfl⟩
  | true =>
  cases e2 : (m == -1) with
  | true => go_wp2; go_ret; exact ⟨by rw [HD.out]; simp [*], rfl⟩
  | false =>
  cases e3 : decide (n ≤ m) with
  | false => go_wp2; go_ret; exact ⟨by rw [HD.out]; simp [*], rfl⟩
  | true =>
  go_wp2; go_ret; exact ⟨by rw [HD.out]; simp [*], rfl⟩
end Go.Proofs.Ytgkfdjfoakbibaa
