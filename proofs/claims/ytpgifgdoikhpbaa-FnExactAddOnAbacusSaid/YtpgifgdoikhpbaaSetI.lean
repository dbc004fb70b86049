/- Abaci: set to a value on the program's side; the plain setting of an abacus. No condition. -/
import Derived.Test.YtpgifgdoikhpbaaSetPl
namespace Go.Proofs.Ytpgifgdoikhpbaa
open Go.RowKit

theorem iPlainOk {u o t : Int} {A : Option Addr} {n c : Nat} {xs : List (Int × Int)} {v : Int} (w : World) (h : Reads w w.heap.size 2 A n (flat encPair xs)) (hl : xs.length = n) (hm : n ≤ maxLen) (hn : 1 ≤ n) (hn' : n ≤ 10) (ku : 0 ≤ u ∧ u ≤ 4) (kt : 1 ≤ t ∧ t ≤ 10) (v0 : 0 ≤ v) (v1 : v ≤ 1000000000000) (hr : rest10 n v = 0) :
    Calls Try.prog 70 #[.agg #[.int .i64 u, .int .i64 o, .int .i64 t, .slice A n c], .int .i64 v] w (RetAV w u o t n (flat encPair (plL u t n v)) (.int .i64 0)) :=
  (iPlain w h hl hm hn hn' ku kt v0 v1).mono fun _ _ hp => hp.elim (fun h => h.2) (fun h => absurd hr h.1)
theorem iPlainFull {u o t : Int} {A : Option Addr} {n c : Nat} {xs : List (Int × Int)} {v : Int} (w : World) (h : Reads w w.heap.size 2 A n (flat encPair xs)) (hl : xs.length = n) (hm : n ≤ maxLen) (hn : 1 ≤ n) (hn' : n ≤ 10) (ku : 0 ≤ u ∧ u ≤ 4) (kt : 1 ≤ t ∧ t ≤ 10) (v0 : 0 ≤ v) (v1 : v ≤ 1000000000000) (hr : ¬ rest10 n v = 0) :
    Calls Try.prog 70 #[.agg #[.int .i64 u, .int .i64 o, .int .i64 t, .slice A n c], .int .i64 v] w (RetAV w 0 0 0 0 [] (.int .i64 5)) :=
  (iPlain w h hl hm hn hn' ku kt v0 v1).mono fun _ _ hp => hp.elim (fun h => absurd h.1 hr) (fun h => h.2)
theorem sa_zz {w w' : World} {u o t : Int} {xs : List (Int × Int)} {v c : Int} {s : Value} (hk : saK u o t xs v = false) (hc : saC u o t xs v = c) (ho : Own w' w.heap.size w'.heap.size 69 2 s 0 []) (hb : Below w.heap.size w w') :
    RetSA w u o t xs v (.returned (.tuple #[.agg #[.int .i64 0, .int .i64 0, .int .i64 0, s], .int .i64 c])) w' := by
  refine ⟨s, ?_, ?_, hb⟩
  · rw [hk, hc]; rfl
  · unfold saN saX
    rw [hk]
    exact ho

set_option maxRecDepth 100000 in
set_option maxHeartbeats 3200000 in
theorem iSetAba {u o t : Int} {A : Option Addr} {n c : Nat} {xs : List (Int × Int)} {v : Int} (w : World) (h : Reads w w.heap.size 2 A n (flat encPair xs)) (hl : xs.length = n) (hm : n ≤ maxLen) :
    Calls Try.prog 33 #[.agg #[.int .i64 u, .int .i64 o, .int .i64 t, .slice A n c], .int .i64 v] w (RetSA w u o t xs v) := by
  have HL := Lib.hid hl
  cases hk : okA u o t xs
  · have HE := Lib.hid (sa_1 (v := v) hk)
    clear hl
    go_enter Try.func33, Try.ntmps33
    go_wp2_with fail
    refine absW ?_
    intro w0 hw
    have hb0 : Below w.heap.size w w0 := by rw [hw]; exact (by repeat' (first | assumption | exact Below.refl _ _ | refine Below.drew ?_ | refine belN ?_ _ | refine Below.alloc ?_ (by first | omega | (simp; done) | (simp; omega)) _ | refine Below.setCell ?_ (by first | omega | (simp; done) | (simp; omega)) _))
    have bR : Blk w0 (w.heap.size + 1) 29 #[.int .i64 0, .int .i64 0, .int .i64 0, .slice none 0 0] := by rw [hw]; exact blk_new (by simp)
    have c0 : w0.cell? ⟨w.heap.size, 0, none⟩ = some (.int .i64 u) := by rw [hw]; simp
    have c1 : w0.cell? ⟨w.heap.size, 1, none⟩ = some (.int .i64 o) := by rw [hw]; simp
    have c2 : w0.cell? ⟨w.heap.size, 2, none⟩ = some (.int .i64 t) := by rw [hw]; simp
    have c3 : w0.cell? ⟨w.heap.size, 3, none⟩ = some (.slice A n c) := by rw [hw]; simp
    have zR0 := bR.lt
    clear hw
    refine (iValidAba _ (rdB h hb0) HL.out hm).mono ?_
    rintro e w1 ⟨rfl, hb⟩
    replace bR := bR.bel hb
    replace c0 := cellB c0 hb
    replace c1 := cellB c1 hb
    replace c2 := cellB c2 hb
    replace c3 := cellB c3 hb
    replace hb0 := bel2 hb0 hb
    clear hb
    have d0 := bR.cell 0; have d1 := bR.cell 1; have d2 := bR.cell 2; have d3 := bR.cell 3; have fR := bR.frozen
    simp at d0 d1 d2 d3
    rw [hk]
    have zR1 := bR.lt
    go_wp2
    refine bodyPost_ret (v := .tuple #[.agg #[.int .i64 0, .int .i64 0, .int .i64 0, .slice none 0 0], .int .i64 1]) (by simp [results, Try.results33, go_sem, d0, d1, d2, d3, zR1]) rfl (sa_z HE.out.1 HE.out.2 ?_)
    exact (((hb0.setCell (by first | omega | (simp; done) | (simp; omega)) _).setCell (by first | omega | (simp; done) | (simp; omega)) _).setCell (by first | omega | (simp; done) | (simp; omega)) _).setCell (by first | omega | (simp; done) | (simp; omega)) _
  have HK := Lib.hid hk
  cases h1 : betwB v 0 1000000000000
  · have HE := Lib.hid (sa_2 hk h1)
    clear hl hk
    go_enter Try.func33, Try.ntmps33
    go_wp2_with fail
    refine absW ?_
    intro w0 hw
    have hb0 : Below w.heap.size w w0 := by rw [hw]; exact (by repeat' (first | assumption | exact Below.refl _ _ | refine Below.drew ?_ | refine belN ?_ _ | refine Below.alloc ?_ (by first | omega | (simp; done) | (simp; omega)) _ | refine Below.setCell ?_ (by first | omega | (simp; done) | (simp; omega)) _))
    have bR : Blk w0 (w.heap.size + 1) 29 #[.int .i64 0, .int .i64 0, .int .i64 0, .slice none 0 0] := by rw [hw]; exact blk_new (by simp)
    have c0 : w0.cell? ⟨w.heap.size, 0, none⟩ = some (.int .i64 u) := by rw [hw]; simp
    have c1 : w0.cell? ⟨w.heap.size, 1, none⟩ = some (.int .i64 o) := by rw [hw]; simp
    have c2 : w0.cell? ⟨w.heap.size, 2, none⟩ = some (.int .i64 t) := by rw [hw]; simp
    have c3 : w0.cell? ⟨w.heap.size, 3, none⟩ = some (.slice A n c) := by rw [hw]; simp
    have zR0 := bR.lt
    clear hw
    refine (iValidAba _ (rdB h hb0) HL.out hm).mono ?_
    rintro e w1 ⟨rfl, hb⟩
    replace bR := bR.bel hb
    replace c0 := cellB c0 hb
    replace c1 := cellB c1 hb
    replace c2 := cellB c2 hb
    replace c3 := cellB c3 hb
    replace hb0 := bel2 hb0 hb
    clear hb
    have d0 := bR.cell 0; have d1 := bR.cell 1; have d2 := bR.cell 2; have d3 := bR.cell 3; have fR := bR.frozen
    simp at d0 d1 d2 d3
    rw [HK.out]
    have zR1 := bR.lt
    go_wp2_with (first | (go_at_call 56; refine (between_any _ _ _ _).mono ?_; rintro e w' ⟨rfl, rfl⟩))
    refine bodyPost_ret (v := .tuple #[.agg #[.int .i64 0, .int .i64 0, .int .i64 0, .slice none 0 0], .int .i64 2]) (by simp [results, Try.results33, go_sem, d0, d1, d2, d3, zR1]) rfl (sa_z HE.out.1 HE.out.2 ?_)
    exact (((hb0.setCell (by first | omega | (simp; done) | (simp; omega)) _).setCell (by first | omega | (simp; done) | (simp; omega)) _).setCell (by first | omega | (simp; done) | (simp; omega)) _).setCell (by first | omega | (simp; done) | (simp; omega)) _
  obtain ⟨v0, v1⟩ := betw_iff.1 h1
  obtain ⟨hkd, _, n0, n1⟩ := okA_parts hk
  obtain ⟨ku, _, kt, _⟩ := kdB_parts hkd
  rw [hl] at n0 n1
  by_cases hr : rest10 n v = 0
  · have HS := Lib.hid (sa_0 hk h1 (by rw [hl]; exact hr))
    have HR := Lib.hid hr
    clear hl hk hkd hr
    go_enter Try.func33, Try.ntmps33
    go_wp2_with fail
    refine absW ?_
    intro w0 hw
    have hb0 : Below w.heap.size w w0 := by rw [hw]; exact (by repeat' (first | assumption | exact Below.refl _ _ | refine Below.drew ?_ | refine belN ?_ _ | refine Below.alloc ?_ (by first | omega | (simp; done) | (simp; omega)) _ | refine Below.setCell ?_ (by first | omega | (simp; done) | (simp; omega)) _))
    have bR : Blk w0 (w.heap.size + 1) 29 #[.int .i64 0, .int .i64 0, .int .i64 0, .slice none 0 0] := by rw [hw]; exact blk_new (by simp)
    have c0 : w0.cell? ⟨w.heap.size, 0, none⟩ = some (.int .i64 u) := by rw [hw]; simp
    have c1 : w0.cell? ⟨w.heap.size, 1, none⟩ = some (.int .i64 o) := by rw [hw]; simp
    have c2 : w0.cell? ⟨w.heap.size, 2, none⟩ = some (.int .i64 t) := by rw [hw]; simp
    have c3 : w0.cell? ⟨w.heap.size, 3, none⟩ = some (.slice A n c) := by rw [hw]; simp
    have zR0 := bR.lt
    clear hw
    refine (iValidAba _ (rdB h hb0) HL.out hm).mono ?_
    rintro e w1 ⟨rfl, hb⟩
    replace bR := bR.bel hb
    replace c0 := cellB c0 hb
    replace c1 := cellB c1 hb
    replace c2 := cellB c2 hb
    replace c3 := cellB c3 hb
    replace hb0 := bel2 hb0 hb
    clear hb
    rw [HK.out]
    have zR2 := bR.lt
    go_wp2_with (first | (go_at_call 56; refine (between_any _ _ _ _).mono ?_; rintro e w' ⟨rfl, rfl⟩))
    refine (iPlainOk _ (rdB h hb0) HL.out hm n0 n1 ku kt v0 v1 HR.out).mono ?_
    rintro e w2 ⟨s, rfl, ho, hb⟩
    obtain ⟨A1, k2, rfl, _, _⟩ := ho.form
    replace bR := bR.bel hb
    replace hb0 := bel2 hb0 hb
    have zR1 := bR.lt
    have d0 := bR.cell 0; have d1 := bR.cell 1; have d2 := bR.cell 2; have d3 := bR.cell 3; have fR := bR.frozen
    simp at d0 d1 d2 d3
    go_wp2
    refine bodyPost_ret (v := .tuple #[.agg #[.int .i64 u, .int .i64 o, .int .i64 t, .slice A1 n k2], .int .i64 0]) (by simp [results, Try.results33, go_sem, d0, d1, d2, d3, zR1]) rfl (sa_o HS.out HL.out ?_ ?_)
    · exact ((((ho.setLow (.inl (by first | omega | (simp; done) | (simp; omega))) _).setLow (.inl (by first | omega | (simp; done) | (simp; omega))) _).setLow (.inl (by first | omega | (simp; done) | (simp; omega))) _).setLow (.inl (by first | omega | (simp; done) | (simp; omega))) _).more (by first | omega | (simp; done) | (simp; omega)) (by first | omega | (simp; done) | (simp; omega))
    · exact (((hb0.setCell (by first | omega | (simp; done) | (simp; omega)) _).setCell (by first | omega | (simp; done) | (simp; omega)) _).setCell (by first | omega | (simp; done) | (simp; omega)) _).setCell (by first | omega | (simp; done) | (simp; omega)) _
  · have HE := Lib.hid (sa_5 hk h1 (by rw [hl]; exact hr))
    have HR := Lib.hid hr
    clear hl hk hkd hr
    go_enter Try.func33, Try.ntmps33
    go_wp2_with fail
    refine absW ?_
    intro w0 hw
    have hb0 : Below w.heap.size w w0 := by rw [hw]; exact (by repeat' (first | assumption | exact Below.refl _ _ | refine Below.drew ?_ | refine belN ?_ _ | refine Below.alloc ?_ (by first | omega | (simp; done) | (simp; omega)) _ | refine Below.setCell ?_ (by first | omega | (simp; done) | (simp; omega)) _))
    have bR : Blk w0 (w.heap.size + 1) 29 #[.int .i64 0, .int .i64 0, .int .i64 0, .slice none 0 0] := by rw [hw]; exact blk_new (by simp)
    have c0 : w0.cell? ⟨w.heap.size, 0, none⟩ = some (.int .i64 u) := by rw [hw]; simp
    have c1 : w0.cell? ⟨w.heap.size, 1, none⟩ = some (.int .i64 o) := by rw [hw]; simp
    have c2 : w0.cell? ⟨w.heap.size, 2, none⟩ = some (.int .i64 t) := by rw [hw]; simp
    have c3 : w0.cell? ⟨w.heap.size, 3, none⟩ = some (.slice A n c) := by rw [hw]; simp
    have zR0 := bR.lt
    clear hw
    refine (iValidAba _ (rdB h hb0) HL.out hm).mono ?_
    rintro e w1 ⟨rfl, hb⟩
    replace bR := bR.bel hb
    replace c0 := cellB c0 hb
    replace c1 := cellB c1 hb
    replace c2 := cellB c2 hb
    replace c3 := cellB c3 hb
    replace hb0 := bel2 hb0 hb
    clear hb
    rw [HK.out]
    have zR2 := bR.lt
    go_wp2_with (first | (go_at_call 56; refine (between_any _ _ _ _).mono ?_; rintro e w' ⟨rfl, rfl⟩))
    refine (iPlainFull _ (rdB h hb0) HL.out hm n0 n1 ku kt v0 v1 HR.out).mono ?_
    rintro e w2 ⟨s, rfl, ho, hb⟩
    obtain ⟨A1, k2, rfl, _, _⟩ := ho.form
    replace bR := bR.bel hb
    replace hb0 := bel2 hb0 hb
    have zR1 := bR.lt
    have d0 := bR.cell 0; have d1 := bR.cell 1; have d2 := bR.cell 2; have d3 := bR.cell 3; have fR := bR.frozen
    simp at d0 d1 d2 d3
    go_wp2
    refine bodyPost_ret (v := .tuple #[.agg #[.int .i64 0, .int .i64 0, .int .i64 0, .slice A1 0 k2], .int .i64 5]) (by simp [results, Try.results33, go_sem, d0, d1, d2, d3, zR1]) rfl (sa_zz HE.out.1 HE.out.2 ?_ ?_)
    · exact ((((ho.setLow (.inl (by first | omega | (simp; done) | (simp; omega))) _).setLow (.inl (by first | omega | (simp; done) | (simp; omega))) _).setLow (.inl (by first | omega | (simp; done) | (simp; omega))) _).setLow (.inl (by first | omega | (simp; done) | (simp; omega))) _).more (by first | omega | (simp; done) | (simp; omega)) (by first | omega | (simp; done) | (simp; omega))
    · exact (((hb0.setCell (by first | omega | (simp; done) | (simp; omega)) _).setCell (by first | omega | (simp; done) | (simp; omega)) _).setCell (by first | omega | (simp; done) | (simp; omega)) _).setCell (by first | omega | (simp; done) | (simp; omega)) _

theorem valA_in {u o t : Int} {xs : List (Int × Int)} (h : okA u o t xs = true) : 0 ≤ valA t xs ∧ valA t xs ≤ 1000000000000 := by
  have := valA_bd h 0
  simp only [List.drop_zero] at this
  omega
theorem valA_betw {u o t : Int} {xs : List (Int × Int)} (h : okA u o t xs = true) : betwB (valA t xs) 0 1000000000000 = true := betw_iff.2 (valA_in h)

set_option maxRecDepth 100000 in
set_option maxHeartbeats 3200000 in
theorem sPlainAba {u o t : Int} {A : Option Addr} {n c : Nat} {xs : List (Int × Int)} (w : World) (h : Reads w w.heap.size 2 A n (flat encPair xs)) (hl : xs.length = n) (hm : n ≤ maxLen) :
    Calls Try.prog 34 #[.agg #[.int .i64 u, .int .i64 o, .int .i64 t, .slice A n c]] w (RetSA w u o t xs (valA t xs)) := by
  have HL := Lib.hid hl
  cases hk : okA u o t xs
  · have HE := Lib.hid (sa_1 (v := valA t xs) hk)
    clear hl
    go_enter Try.func34, Try.ntmps34
    go_wp2_with fail
    refine absW ?_
    intro w0 hw
    have hb0 : Below w.heap.size w w0 := by rw [hw]; exact (by repeat' (first | assumption | exact Below.refl _ _ | refine Below.drew ?_ | refine belN ?_ _ | refine Below.alloc ?_ (by first | omega | (simp; done) | (simp; omega)) _ | refine Below.setCell ?_ (by first | omega | (simp; done) | (simp; omega)) _))
    have bR : Blk w0 (w.heap.size + 1) 29 #[.int .i64 0, .int .i64 0, .int .i64 0, .slice none 0 0] := by rw [hw]; exact blk_new (by simp)
    have c0 : w0.cell? ⟨w.heap.size, 0, none⟩ = some (.int .i64 u) := by rw [hw]; simp
    have c1 : w0.cell? ⟨w.heap.size, 1, none⟩ = some (.int .i64 o) := by rw [hw]; simp
    have c2 : w0.cell? ⟨w.heap.size, 2, none⟩ = some (.int .i64 t) := by rw [hw]; simp
    have c3 : w0.cell? ⟨w.heap.size, 3, none⟩ = some (.slice A n c) := by rw [hw]; simp
    have zR0 := bR.lt
    clear hw
    have d0 := bR.cell 0; have d1 := bR.cell 1; have d2 := bR.cell 2; have d3 := bR.cell 3; have fR := bR.frozen
    simp at d0 d1 d2 d3
    refine (sOkA _ (rdB h hb0) HL.out hm c0 c1 c2 c3).mono ?_
    rintro e w' ⟨rfl, k1, rfl⟩
    rw [hk]
    go_wp2
    refine bodyPost_ret (v := .tuple #[.agg #[.int .i64 0, .int .i64 0, .int .i64 0, .slice none 0 0], .int .i64 1]) (by simp [results, Try.results34, go_sem, d0, d1, d2, d3]) rfl (sa_z HE.out.1 HE.out.2 ?_)
    exact ((((belN hb0 _).setCell (by first | omega | (simp; done) | (simp; omega)) _).setCell (by first | omega | (simp; done) | (simp; omega)) _).setCell (by first | omega | (simp; done) | (simp; omega)) _).setCell (by first | omega | (simp; done) | (simp; omega)) _
  have HK := Lib.hid hk
  have h1 := valA_betw hk
  obtain ⟨v0, v1⟩ := valA_in hk
  obtain ⟨hkd, _, n0, n1⟩ := okA_parts hk
  obtain ⟨ku, _, kt, _⟩ := kdB_parts hkd
  rw [hl] at n0 n1
  by_cases hr : rest10 n (valA t xs) = 0
  · have HS := Lib.hid (sa_0 hk h1 (by rw [hl]; exact hr))
    have BR : Hid ((rest10 n (valA t xs) == 0) = true) := by unfold Hid; simp [hr]
    clear hl hk hkd hr h1
    go_enter Try.func34, Try.ntmps34
    go_wp2_with fail
    refine absW ?_
    intro w0 hw
    have hb0 : Below w.heap.size w w0 := by rw [hw]; exact (by repeat' (first | assumption | exact Below.refl _ _ | refine Below.drew ?_ | refine belN ?_ _ | refine Below.alloc ?_ (by first | omega | (simp; done) | (simp; omega)) _ | refine Below.setCell ?_ (by first | omega | (simp; done) | (simp; omega)) _))
    have bR : Blk w0 (w.heap.size + 1) 29 #[.int .i64 0, .int .i64 0, .int .i64 0, .slice none 0 0] := by rw [hw]; exact blk_new (by simp)
    have c0 : w0.cell? ⟨w.heap.size, 0, none⟩ = some (.int .i64 u) := by rw [hw]; simp
    have c1 : w0.cell? ⟨w.heap.size, 1, none⟩ = some (.int .i64 o) := by rw [hw]; simp
    have c2 : w0.cell? ⟨w.heap.size, 2, none⟩ = some (.int .i64 t) := by rw [hw]; simp
    have c3 : w0.cell? ⟨w.heap.size, 3, none⟩ = some (.slice A n c) := by rw [hw]; simp
    have zR0 := bR.lt
    clear hw
    refine (sOkA _ (rdB h hb0) HL.out hm c0 c1 c2 c3).mono ?_
    rintro e w' ⟨rfl, k1, rfl⟩
    rw [HK.out]
    go_wp2_with fail
    refine (sValueA _ ((rdB h hb0).drewN _) HL.out hm c2 c3 HK.out).mono ?_
    rintro e w' ⟨rfl, k4, rfl⟩
    go_wp2_with fail
    refine absW ?_
    intro w3 hw
    have hb3 : Below w.heap.size w w3 := by rw [hw]; exact belN hb0 _
    replace bR : Blk w3 (w.heap.size + 1) 29 #[.int .i64 0, .int .i64 0, .int .i64 0, .slice none 0 0] := by rw [hw]; exact bR.drewN _
    have x0 : w3.cell? ⟨w.heap.size, 0, none⟩ = some (.int .i64 u) := by rw [hw]; exact c0
    have x1 : w3.cell? ⟨w.heap.size, 1, none⟩ = some (.int .i64 o) := by rw [hw]; exact c1
    have x2 : w3.cell? ⟨w.heap.size, 2, none⟩ = some (.int .i64 t) := by rw [hw]; exact c2
    have x3 : w3.cell? ⟨w.heap.size, 3, none⟩ = some (.slice A n c) := by rw [hw]; exact c3
    clear hw
    have zR2 := bR.lt
    refine (sSet _ (rdB h hb3) HL.out hm x0 x1 x2 x3 n0 n1 ku kt v0 v1).mono ?_
    rintro e w1 ⟨s, rfl, ho, hb⟩
    rw [BR.out]
    obtain ⟨A1, k2, rfl, _, _⟩ := ho.form
    replace bR := bR.bel hb
    replace hb0 := bel2 hb3 hb
    have zR1 := bR.lt
    have d0 := bR.cell 0; have d1 := bR.cell 1; have d2 := bR.cell 2; have d3 := bR.cell 3; have fR := bR.frozen
    simp at d0 d1 d2 d3
    go_wp2
    refine bodyPost_ret (v := .tuple #[.agg #[.int .i64 u, .int .i64 o, .int .i64 t, .slice A1 n k2], .int .i64 0]) (by simp [results, Try.results34, go_sem, d0, d1, d2, d3, zR1]) rfl (sa_o HS.out HL.out ?_ ?_)
    · exact (((((ho.setLow (.inl (by first | omega | (simp; done) | (simp; omega))) _).setLow (.inl (by first | omega | (simp; done) | (simp; omega))) _).setLow (.inl (by first | omega | (simp; done) | (simp; omega))) _).setLow (.inl (by first | omega | (simp; done) | (simp; omega))) _).alloc _).more (by first | omega | (simp; done) | (simp; omega)) (by first | omega | (simp; done) | (simp; omega))
    · exact ((((hb0.setCell (by first | omega | (simp; done) | (simp; omega)) _).setCell (by first | omega | (simp; done) | (simp; omega)) _).setCell (by first | omega | (simp; done) | (simp; omega)) _).setCell (by first | omega | (simp; done) | (simp; omega)) _).alloc (by first | omega | (simp; done) | (simp; omega)) _
  · have HE := Lib.hid (sa_5 hk h1 (by rw [hl]; exact hr))
    have BR : Hid ((rest10 n (valA t xs) == 0) = false) := by unfold Hid; simp [hr]
    clear hl hk hkd hr h1
    go_enter Try.func34, Try.ntmps34
    go_wp2_with fail
    refine absW ?_
    intro w0 hw
    have hb0 : Below w.heap.size w w0 := by rw [hw]; exact (by repeat' (first | assumption | exact Below.refl _ _ | refine Below.drew ?_ | refine belN ?_ _ | refine Below.alloc ?_ (by first | omega | (simp; done) | (simp; omega)) _ | refine Below.setCell ?_ (by first | omega | (simp; done) | (simp; omega)) _))
    have bR : Blk w0 (w.heap.size + 1) 29 #[.int .i64 0, .int .i64 0, .int .i64 0, .slice none 0 0] := by rw [hw]; exact blk_new (by simp)
    have c0 : w0.cell? ⟨w.heap.size, 0, none⟩ = some (.int .i64 u) := by rw [hw]; simp
    have c1 : w0.cell? ⟨w.heap.size, 1, none⟩ = some (.int .i64 o) := by rw [hw]; simp
    have c2 : w0.cell? ⟨w.heap.size, 2, none⟩ = some (.int .i64 t) := by rw [hw]; simp
    have c3 : w0.cell? ⟨w.heap.size, 3, none⟩ = some (.slice A n c) := by rw [hw]; simp
    have zR0 := bR.lt
    clear hw
    refine (sOkA _ (rdB h hb0) HL.out hm c0 c1 c2 c3).mono ?_
    rintro e w' ⟨rfl, k1, rfl⟩
    rw [HK.out]
    go_wp2_with fail
    refine (sValueA _ ((rdB h hb0).drewN _) HL.out hm c2 c3 HK.out).mono ?_
    rintro e w' ⟨rfl, k4, rfl⟩
    go_wp2_with fail
    refine absW ?_
    intro w3 hw
    have hb3 : Below w.heap.size w w3 := by rw [hw]; exact belN hb0 _
    replace bR : Blk w3 (w.heap.size + 1) 29 #[.int .i64 0, .int .i64 0, .int .i64 0, .slice none 0 0] := by rw [hw]; exact bR.drewN _
    have x0 : w3.cell? ⟨w.heap.size, 0, none⟩ = some (.int .i64 u) := by rw [hw]; exact c0
    have x1 : w3.cell? ⟨w.heap.size, 1, none⟩ = some (.int .i64 o) := by rw [hw]; exact c1
    have x2 : w3.cell? ⟨w.heap.size, 2, none⟩ = some (.int .i64 t) := by rw [hw]; exact c2
    have x3 : w3.cell? ⟨w.heap.size, 3, none⟩ = some (.slice A n c) := by rw [hw]; exact c3
    clear hw
    have zR2 := bR.lt
    refine (sSet _ (rdB h hb3) HL.out hm x0 x1 x2 x3 n0 n1 ku kt v0 v1).mono ?_
    rintro e w1 ⟨s, rfl, ho, hb⟩
    rw [BR.out]
    obtain ⟨A1, k2, rfl, _, _⟩ := ho.form
    replace bR := bR.bel hb
    replace hb0 := bel2 hb3 hb
    have zR1 := bR.lt
    have d0 := bR.cell 0; have d1 := bR.cell 1; have d2 := bR.cell 2; have d3 := bR.cell 3; have fR := bR.frozen
    simp at d0 d1 d2 d3
    go_wp2
    refine bodyPost_ret (v := .tuple #[.agg #[.int .i64 0, .int .i64 0, .int .i64 0, .slice none 0 0], .int .i64 5]) (by simp [results, Try.results34, go_sem, d0, d1, d2, d3, zR1]) rfl (sa_z HE.out.1 HE.out.2 ?_)
    exact ((((hb0.setCell (by first | omega | (simp; done) | (simp; omega)) _).setCell (by first | omega | (simp; done) | (simp; omega)) _).setCell (by first | omega | (simp; done) | (simp; omega)) _).setCell (by first | omega | (simp; done) | (simp; omega)) _).alloc (by first | omega | (simp; done) | (simp; omega)) _

set_option maxRecDepth 100000 in
set_option maxHeartbeats 3200000 in
theorem iPlainAba {u o t : Int} {A : Option Addr} {n c : Nat} {xs : List (Int × Int)} (w : World) (h : Reads w w.heap.size 2 A n (flat encPair xs)) (hl : xs.length = n) (hm : n ≤ maxLen) :
    Calls Try.prog 35 #[.agg #[.int .i64 u, .int .i64 o, .int .i64 t, .slice A n c]] w (RetSA w u o t xs (valA t xs)) := by
  have HL := Lib.hid hl
  cases hk : okA u o t xs
  · have HE := Lib.hid (sa_1 (v := valA t xs) hk)
    clear hl
    go_enter Try.func35, Try.ntmps35
    go_wp2_with fail
    refine absW ?_
    intro w0 hw
    have hb0 : Below w.heap.size w w0 := by rw [hw]; exact (by repeat' (first | assumption | exact Below.refl _ _ | refine Below.drew ?_ | refine belN ?_ _ | refine Below.alloc ?_ (by first | omega | (simp; done) | (simp; omega)) _ | refine Below.setCell ?_ (by first | omega | (simp; done) | (simp; omega)) _))
    have bR : Blk w0 (w.heap.size + 1) 29 #[.int .i64 0, .int .i64 0, .int .i64 0, .slice none 0 0] := by rw [hw]; exact blk_new (by simp)
    have c0 : w0.cell? ⟨w.heap.size, 0, none⟩ = some (.int .i64 u) := by rw [hw]; simp
    have c1 : w0.cell? ⟨w.heap.size, 1, none⟩ = some (.int .i64 o) := by rw [hw]; simp
    have c2 : w0.cell? ⟨w.heap.size, 2, none⟩ = some (.int .i64 t) := by rw [hw]; simp
    have c3 : w0.cell? ⟨w.heap.size, 3, none⟩ = some (.slice A n c) := by rw [hw]; simp
    have zR0 := bR.lt
    clear hw
    refine (iValidAba _ (rdB h hb0) HL.out hm).mono ?_
    rintro e w1 ⟨rfl, hb⟩
    replace bR := bR.bel hb
    replace c0 := cellB c0 hb
    replace c1 := cellB c1 hb
    replace c2 := cellB c2 hb
    replace c3 := cellB c3 hb
    replace hb0 := bel2 hb0 hb
    clear hb
    have d0 := bR.cell 0; have d1 := bR.cell 1; have d2 := bR.cell 2; have d3 := bR.cell 3; have fR := bR.frozen
    simp at d0 d1 d2 d3
    rw [hk]
    have zR1 := bR.lt
    go_wp2
    refine bodyPost_ret (v := .tuple #[.agg #[.int .i64 0, .int .i64 0, .int .i64 0, .slice none 0 0], .int .i64 1]) (by simp [results, Try.results35, go_sem, d0, d1, d2, d3, zR1]) rfl (sa_z HE.out.1 HE.out.2 ?_)
    exact (((hb0.setCell (by first | omega | (simp; done) | (simp; omega)) _).setCell (by first | omega | (simp; done) | (simp; omega)) _).setCell (by first | omega | (simp; done) | (simp; omega)) _).setCell (by first | omega | (simp; done) | (simp; omega)) _
  have HK := Lib.hid hk
  have h1 := valA_betw hk
  obtain ⟨v0, v1⟩ := valA_in hk
  obtain ⟨hkd, _, n0, n1⟩ := okA_parts hk
  obtain ⟨ku, _, kt, _⟩ := kdB_parts hkd
  rw [hl] at n0 n1
  by_cases hr : rest10 n (valA t xs) = 0
  · have HS := Lib.hid (sa_0 hk h1 (by rw [hl]; exact hr))
    have HR := Lib.hid hr
    clear hl hk hkd hr h1
    go_enter Try.func35, Try.ntmps35
    go_wp2_with fail
    refine absW ?_
    intro w0 hw
    have hb0 : Below w.heap.size w w0 := by rw [hw]; exact (by repeat' (first | assumption | exact Below.refl _ _ | refine Below.drew ?_ | refine belN ?_ _ | refine Below.alloc ?_ (by first | omega | (simp; done) | (simp; omega)) _ | refine Below.setCell ?_ (by first | omega | (simp; done) | (simp; omega)) _))
    have bR : Blk w0 (w.heap.size + 1) 29 #[.int .i64 0, .int .i64 0, .int .i64 0, .slice none 0 0] := by rw [hw]; exact blk_new (by simp)
    have c0 : w0.cell? ⟨w.heap.size, 0, none⟩ = some (.int .i64 u) := by rw [hw]; simp
    have c1 : w0.cell? ⟨w.heap.size, 1, none⟩ = some (.int .i64 o) := by rw [hw]; simp
    have c2 : w0.cell? ⟨w.heap.size, 2, none⟩ = some (.int .i64 t) := by rw [hw]; simp
    have c3 : w0.cell? ⟨w.heap.size, 3, none⟩ = some (.slice A n c) := by rw [hw]; simp
    have zR0 := bR.lt
    clear hw
    refine (iValidAba _ (rdB h hb0) HL.out hm).mono ?_
    rintro e w1 ⟨rfl, hb⟩
    replace bR := bR.bel hb
    replace c0 := cellB c0 hb
    replace c1 := cellB c1 hb
    replace c2 := cellB c2 hb
    replace c3 := cellB c3 hb
    replace hb0 := bel2 hb0 hb
    clear hb
    rw [HK.out]
    have zR2 := bR.lt
    go_wp2_with fail
    go_region_with ((first
      | (go_at_call 58; refine (iValueA _ (rdB h hb0.drew) HL.out hm HK.out).mono ?_; rintro e w2 ⟨rfl, hb2⟩; have hbx : Below w1.heap.size w1 w2 := ((Below.refl _ _).drew).trans hb2; clear hb2; have y0 := cellB c0 hbx; have y1 := cellB c1 hbx; have y2 := cellB c2 hbx; have y3 := cellB c3 hbx; skip)
      | (go_at_call 70; refine (iPlainOk _ (rdB h (bel2 hb0 hbx)) HL.out hm n0 n1 ku kt v0 v1 HR.out).mono ?_; rintro e w3 ⟨s, rfl, ho, hb⟩; obtain ⟨A1, k2, rfl, _, _⟩ := ho.form; have hbR := (bR.bel hbx).bel hb; have hbB := bel2 (bel2 hb0 hbx) hb; have zR1 := hbR.lt; have d0 := hbR.cell 0; have d1 := hbR.cell 1; have d2 := hbR.cell 2; have d3 := hbR.cell 3; have fR := hbR.frozen; simp at d0 d1 d2 d3)))
    all_goals
      have zx := hbx.size
      have zb := hb.size
      go_wp2
      refine bodyPost_ret (v := .tuple #[.agg #[.int .i64 u, .int .i64 o, .int .i64 t, .slice A1 n k2], .int .i64 0]) (by simp [results, Try.results35, go_sem, d0, d1, d2, d3, zR1]) rfl (sa_o HS.out HL.out ?_ ?_)
      · exact ((((ho.setLow (.inl (by first | omega | (simp; done) | (simp; omega))) _).setLow (.inl (by first | omega | (simp; done) | (simp; omega))) _).setLow (.inl (by first | omega | (simp; done) | (simp; omega))) _).setLow (.inl (by first | omega | (simp; done) | (simp; omega))) _).more (by first | omega | (simp; done) | (simp; omega)) (by first | omega | (simp; done) | (simp; omega))
      · exact (((hbB.setCell (by first | omega | (simp; done) | (simp; omega)) _).setCell (by first | omega | (simp; done) | (simp; omega)) _).setCell (by first | omega | (simp; done) | (simp; omega)) _).setCell (by first | omega | (simp; done) | (simp; omega)) _
  · have HE := Lib.hid (sa_5 hk h1 (by rw [hl]; exact hr))
    have HR := Lib.hid hr
    clear hl hk hkd hr h1
    go_enter Try.func35, Try.ntmps35
    go_wp2_with fail
    refine absW ?_
    intro w0 hw
    have hb0 : Below w.heap.size w w0 := by rw [hw]; exact (by repeat' (first | assumption | exact Below.refl _ _ | refine Below.drew ?_ | refine belN ?_ _ | refine Below.alloc ?_ (by first | omega | (simp; done) | (simp; omega)) _ | refine Below.setCell ?_ (by first | omega | (simp; done) | (simp; omega)) _))
    have bR : Blk w0 (w.heap.size + 1) 29 #[.int .i64 0, .int .i64 0, .int .i64 0, .slice none 0 0] := by rw [hw]; exact blk_new (by simp)
    have c0 : w0.cell? ⟨w.heap.size, 0, none⟩ = some (.int .i64 u) := by rw [hw]; simp
    have c1 : w0.cell? ⟨w.heap.size, 1, none⟩ = some (.int .i64 o) := by rw [hw]; simp
    have c2 : w0.cell? ⟨w.heap.size, 2, none⟩ = some (.int .i64 t) := by rw [hw]; simp
    have c3 : w0.cell? ⟨w.heap.size, 3, none⟩ = some (.slice A n c) := by rw [hw]; simp
    have zR0 := bR.lt
    clear hw
    refine (iValidAba _ (rdB h hb0) HL.out hm).mono ?_
    rintro e w1 ⟨rfl, hb⟩
    replace bR := bR.bel hb
    replace c0 := cellB c0 hb
    replace c1 := cellB c1 hb
    replace c2 := cellB c2 hb
    replace c3 := cellB c3 hb
    replace hb0 := bel2 hb0 hb
    clear hb
    rw [HK.out]
    have zR2 := bR.lt
    go_wp2_with fail
    go_region_with ((first
      | (go_at_call 58; refine (iValueA _ (rdB h hb0.drew) HL.out hm HK.out).mono ?_; rintro e w2 ⟨rfl, hb2⟩; have hbx : Below w1.heap.size w1 w2 := ((Below.refl _ _).drew).trans hb2; clear hb2; have y0 := cellB c0 hbx; have y1 := cellB c1 hbx; have y2 := cellB c2 hbx; have y3 := cellB c3 hbx; skip)
      | (go_at_call 70; refine (iPlainFull _ (rdB h (bel2 hb0 hbx)) HL.out hm n0 n1 ku kt v0 v1 HR.out).mono ?_; rintro e w3 ⟨s, rfl, ho, hb⟩; obtain ⟨A1, k2, rfl, _, _⟩ := ho.form; have hbR := (bR.bel hbx).bel hb; have hbB := bel2 (bel2 hb0 hbx) hb; have zR1 := hbR.lt; have d0 := hbR.cell 0; have d1 := hbR.cell 1; have d2 := hbR.cell 2; have d3 := hbR.cell 3; have fR := hbR.frozen; simp at d0 d1 d2 d3)))
    all_goals
      have zx := hbx.size
      have zb := hb.size
      go_wp2
      refine bodyPost_ret (v := .tuple #[.agg #[.int .i64 0, .int .i64 0, .int .i64 0, .slice A1 0 k2], .int .i64 5]) (by simp [results, Try.results35, go_sem, d0, d1, d2, d3, zR1]) rfl (sa_zz HE.out.1 HE.out.2 ?_ ?_)
      · exact ((((ho.setLow (.inl (by first | omega | (simp; done) | (simp; omega))) _).setLow (.inl (by first | omega | (simp; done) | (simp; omega))) _).setLow (.inl (by first | omega | (simp; done) | (simp; omega))) _).setLow (.inl (by first | omega | (simp; done) | (simp; omega))) _).more (by first | omega | (simp; done) | (simp; omega)) (by first | omega | (simp; done) | (simp; omega))
      · exact (((hbB.setCell (by first | omega | (simp; done) | (simp; omega)) _).setCell (by first | omega | (simp; done) | (simp; omega)) _).setCell (by first | omega | (simp; done) | (simp; omega)) _).setCell (by first | omega | (simp; done) | (simp; omega)) _
end Go.Proofs.Ytpgifgdoikhpbaa
