/- Chapter 3: rows that are read have short words; the walks of the statements' functions WordsBack and WordsRound. -/
import Derived.Test.YtbcofimmfbmkoaaDoorWlawH
import Derived.Test.YtbcofimmfbmkoaaDoorWlawK
namespace Go.Proofs.YtbcofimmfbmkoaaDoor
open Go.RowKit Go.Shelf Words3

theorem keyOf_le (s : List UInt8) : (Words3.keyOf s).length ≤ s.length := by
  unfold Words3.keyOf
  split
  · rw [List.length_take]; omega
  · exact Nat.zero_le _
theorem wordsGo_size : ∀ (f n : Nat) (s : List UInt8), ∀ y ∈ wordsGo f n s, y.2 = true → y.1.key.length ≤ s.length ∧ y.1.text.length ≤ s.length
  | 0, _, _ => fun y h => by cases h
  | f + 1, n, [] => fun y h => by cases h
  | f + 1, n, c :: r => by
    intro y hy ht
    simp only [wordsGo] at hy
    split at hy
    · have := wordsGo_size f (n + 1) r y hy ht
      rw [List.length_cons]; omega
    · split at hy
      · cases hy
      · split at hy
        · rename_i h3
          obtain ⟨k, h4, h5, h6, h7⟩ := wordF_rest _ h3
          rcases List.mem_cons.1 hy with rfl | hy
          · exact ⟨keyOf_le (c :: r), by dsimp only; omega⟩
          · have := wordsGo_size f _ _ y hy ht
            rw [h4, List.length_drop] at this
            omega
        · rcases List.mem_cons.1 hy with rfl | hy
          · cases ht
          · cases hy
theorem rowF_size (l : List UInt8) : ∀ w ∈ (rowF l).1, w.key.length ≤ l.length ∧ w.text.length ≤ l.length := fun w hw => wordsGo_size _ _ _ _ (rowOf_mem _ w hw) rfl
def Short (rs : List Rw) : Prop := ∀ r ∈ rs, ∀ x ∈ r.words, x.key.length ≤ 1000 ∧ x.text.length ≤ 1000
theorem rowsGo_short : ∀ (ls : List (List UInt8)) (n : Nat) (acc : List Rw), Short acc → Short (rowsGo n ls acc).rows
  | [], n, acc, h => h
  | l :: ls, n, acc, h => by
    unfold rowsGo
    split
    · exact fun r hr => by cases hr
    · rename_i h1
      split
      · exact fun r hr => by cases hr
      · refine rowsGo_short ls _ _ ?_
        unfold addRow
        split
        · exact h
        · intro r hr
          rcases List.mem_append.1 hr with hr | hr
          · exact h r hr
          · rw [List.mem_singleton] at hr
            subst hr
            intro x hx
            obtain ⟨y, hy, rfl⟩ := List.mem_map.1 hx
            have := rowF_size l y hy
            exact ⟨Nat.le_trans this.1 (by omega), Nat.le_trans this.2 (by omega)⟩
theorem rowsF_fit (s : List UInt8) : Fit (rowsF s).rows := by
  have h1 := (rowsF_bound s).2
  have h2 : Short (rowsF s).rows := by
    unfold rowsF
    split
    · exact fun r hr => by cases hr
    · exact rowsGo_short _ _ _ (fun r hr => by cases hr)
  exact fun r hr => ⟨Nat.le_trans (h1 r hr) (by decide), fun x hx => by have := h2 r hr x hx; omega⟩
theorem madeWords_fit (n : Nat) : ∀ k, ∀ x ∈ madeWords n k, x.key.length ≤ 100000 ∧ x.text.length ≤ 20000
  | 0, x, h => by cases h
  | k + 1, x, h => by
    unfold madeWords at h
    rcases List.mem_append.1 h with h | h
    · exact madeWords_fit n k x h
    · rw [List.mem_singleton] at h
      subst h
      have h1 : (madeText ((n / 4 + 7 * k) % 8)).length ≤ 3 := by
        unfold madeText
        split <;> simp
      have h2 : (madeKey ((n / 4 + 7 * k) / 8 % 3)).length ≤ 3 := (madeKey_ok ⟨(n / 4 + 7 * k) / 8 % 3, Nat.mod_lt _ (by decide)⟩).2
      unfold madeWord
      dsimp only
      constructor
      · split
        · omega
        · exact Nat.zero_le _
      · omega
theorem made_fit (ns : List Nat) : Fit (ns.map madeRow) ∧ ∀ r ∈ ns.map madeRow, r.words.length ≤ 100000 := by
  have h : ∀ r ∈ ns.map madeRow, r.words.length ≤ 4 := fun r hr => by
    obtain ⟨n, _, rfl⟩ := List.mem_map.1 hr
    show (madeWords n (n % 4 + 1)).length ≤ 4
    rw [madeWords_length]; omega
  refine ⟨fun r hr => ⟨Nat.le_trans (h r hr) (by decide), ?_⟩, fun r hr => Nat.le_trans (h r hr) (by decide)⟩
  obtain ⟨n, _, rfl⟩ := List.mem_map.1 hr
  exact madeWords_fit n _
theorem rowsF_small (s : List UInt8) : (rowsF s).rows.length ≤ 100000 ∧ ∀ r ∈ (rowsF s).rows, r.words.length ≤ 100000 := by
  obtain ⟨h1, h2⟩ := rowsF_bound s
  exact ⟨by omega, fun r hr => Nat.le_trans (h2 r hr) (by decide)⟩

set_option maxHeartbeats 10000000 in
set_option maxRecDepth 100000 in
theorem lawBack_any (s t : ByteArray) (W : World) : Calls Tryd.prog 7 #[.string s, .string t] W fun e w' => e = .returned (.bool true) ∧ Below W.heap.size W w' := by
  have HK := Lib.hid (fun W => known_any W)
  have hcase : (300 < s.size) ∨ (s.size ≤ 300 ∧ 300 < t.size) ∨ (s.size ≤ 300 ∧ t.size ≤ 300) := by omega
  rcases hcase with c1 | ⟨c1, c2⟩ | ⟨c1, c2⟩
  · have d1 := lt_t (a := 300) (b := (s.size : Int)) (by omega)
    go_enter Tryd.func7, Tryd.ntmps7
    go_wp2_with fail
    refine (HK.out _).mono ?_
    rintro e w1 ⟨rfl, b1⟩
    go_wp2_with fail
    go_ret
    exact ⟨rfl, b1⟩
  · have d1 := lt_f (a := 300) (b := (s.size : Int)) (by omega)
    have d2 := lt_t (a := 300) (b := (t.size : Int)) (by omega)
    go_enter Tryd.func7, Tryd.ntmps7
    go_wp2_with fail
    refine (HK.out _).mono ?_
    rintro e w1 ⟨rfl, b1⟩
    go_wp2_with fail
    go_ret
    exact ⟨rfl, b1⟩
  · have d1 := lt_f (a := 300) (b := (s.size : Int)) (by omega)
    have d2 := lt_f (a := 300) (b := (t.size : Int)) (by omega)
    have HQ1 := Lib.hid (fun W => Quote_any s (by omega) W)
    have HQ2 := Lib.hid (fun W => Quote_any t (by omega) W)
    have hq1 := quoteF_len s.data.toList
    have hq2 := quoteF_len t.data.toList
    rw [bytes_len] at hq1 hq2
    have HU1 := Lib.hid (fun W => Unquote_any ⟨(quoteF s.data.toList).toArray⟩ (show (quoteF s.data.toList).length ≤ 100000 by omega) W)
    have HU2 := Lib.hid (fun W => Unquote_any ⟨(quoteF t.data.toList).toArray⟩ (show (quoteF t.data.toList).length ≤ 100000 by omega) W)
    rw [show (⟨(quoteF s.data.toList).toArray⟩ : ByteArray).data.toList = quoteF s.data.toList from rfl, unquote_quote] at HU1
    rw [show (⟨(quoteF t.data.toList).toArray⟩ : ByteArray).data.toList = quoteF t.data.toList from rfl, unquote_quote] at HU2
    have hst : (⟨s.data.toList.toArray⟩ : ByteArray) = s := by cases s; rfl
    have htt : (⟨t.data.toList.toArray⟩ : ByteArray) = t := by cases t; rfl
    dsimp only at HU1 HU2
    rw [hst] at HU1
    rw [htt] at HU2
    have heq : (quoteF s.data.toList == quoteF t.data.toList) = (s.toList == t.toList) := by
      rw [ByteArray.toList_eq, ByteArray.toList_eq, Bool.eq_iff_iff, beq_iff_eq, beq_iff_eq]
      exact ⟨fun h => quoteF_inj h, fun h => by rw [h]⟩
    have HE := Lib.hid heq
    clear hst htt hq1 hq2 heq
    generalize quoteF s.data.toList = Q1 at *
    generalize quoteF t.data.toList = Q2 at *
    go_enter Tryd.func7, Tryd.ntmps7
    go_wp2_with fail
    refine (HK.out _).mono ?_
    rintro e w1 ⟨rfl, b1⟩
    go_wp2_with fail
    refine (HQ1.out _).mono ?_
    rintro e w2 ⟨rfl, b2⟩
    have t2 := andThen b1 b2
    go_wp2_with fail
    refine (HQ2.out _).mono ?_
    rintro e w3 ⟨rfl, b3⟩
    have t3 := andThen t2 b3
    clear b1 b2 t2 b3
    go_wp2_with fail
    refine (HU1.out _).mono ?_
    rintro e w4 ⟨rfl, b4⟩
    have t4 := andThen t3 b4
    clear t3 b4
    go_wp2_with fail
    refine (HU2.out _).mono ?_
    rintro e w5 ⟨rfl, b5⟩
    have t5 := andThen t4 b5
    clear t4 b5
    have hE := HE.out
    go_wp2_with fail
    go_ret
    exact ⟨rfl, t5⟩

set_option maxHeartbeats 10000000 in
set_option maxRecDepth 100000 in
theorem lawRound_any (v : Value) (l : List Int) (s : ByteArray) (W : World) (h : Row W 1 v l.length (l.map fun n => .int .i64 n)) (hw : ∀ n ∈ l, (Lit.int .i64 n).wf = true) :
    Calls Tryd.prog 9 #[v, .string s] W fun e w' => e = .returned (.bool true) ∧ Below W.heap.size W w' := by
  obtain ⟨ad, c, rfl, hc⟩ := h.slice
  have HN := Lib.hid (And.intro h hw)
  have HK := Lib.hid (fun W => known_any W)
  clear h hw
  go_enter Tryd.func9, Tryd.ntmps9
  go_wp2_with fail
  refine (HK.out _).mono ?_
  rintro e w1 ⟨rfl, b1⟩
  go_wp2_with fail
  refine (made_any _ _ l (HN.out.1.below b1) HN.out.2).mono ?_
  rintro e w2 ⟨v2, ns, rfl, hns, r2, b2⟩
  obtain ⟨ad2, c2, rfl⟩ := r2.slice
  obtain ⟨F1, F2⟩ := made_fit ns
  have hml : (ns.map madeRow).length ≤ 100000 := by rw [List.length_map]; omega
  have hmt := made_text ns hns
  obtain ⟨T, hT⟩ : ∃ T, T = (ns.map madeRow).flatMap (fun r => lineF r.words ++ [10]) := ⟨_, rfl⟩
  rw [← hT] at hmt
  clear hT
  obtain ⟨g1, g2, g3⟩ := round_trip hmt
  have H2 := Lib.hid (And.intro r2.at_ (andThen b1 b2))
  have G1 := Lib.hid (And.intro hmt (And.intro g2 g3))
  clear r2 b1 b2 hmt g1 g2 g3
  generalize ns.map madeRow = rs at *
  have HT := Lib.hid (Text_any w2 _ rs H2.out.1 F1 hml)
  rw [G1.out.1] at HT
  go_wp2_with fail
  refine HT.out.mono ?_
  rintro e w3 ⟨rfl, b3⟩
  clear HT
  have HR := Lib.hid (Rows_any ⟨T.toArray⟩ w3)
  rw [show (⟨T.toArray⟩ : ByteArray).data.toList = T from rfl] at HR
  obtain ⟨S1, S2⟩ := rowsF_small T
  have HG := Lib.hid (show Agree false (rowsF T).rows rs from ⟨G1.out.2.2, fun h => by cases h⟩)
  have hze := G1.out.2.1
  have H3 := Lib.hid (And.intro (H2.out.1.below b3) (andThen H2.out.2 b3))
  clear b3 H2 G1
  generalize rowsF T = R at *
  obtain ⟨rs4, er, pl⟩ := R
  dsimp only at hze S1 S2 HG HR
  subst hze
  go_wp2_with fail
  refine HR.out.mono ?_
  rintro e w4 ⟨v4, rfl, r4, b4⟩
  obtain ⟨ad4, c4, rfl⟩ := r4.slice
  have a4 := Go.Joins.below_alloc1 w4 (.cells #[.int .i64 0, .int .i64 (pl : Int)] 26)
  have k4 := World.alloc_heap_new w4 (.cells #[.int .i64 0, .int .i64 (pl : Int)] 26)
  have bb := b4.trans (a4.mono b4.size)
  have H4 := Lib.hid (And.intro (H3.out.1.below bb) (And.intro (r4.at_.below a4) (andThen H3.out.2 bb)))
  have x0 := cell2_0 k4
  clear HR r4 b4 a4 k4 bb H3
  go_wp2_with fail
  refine (same_true _ _ _ rs4 rs false H4.out.2.1 H4.out.1 HG.out S1 S2).mono ?_
  rintro e w5 ⟨rfl, b5⟩
  have t5 := andThen H4.out.2.2 b5
  clear b5 H4 x0 S1 S2 HG F1 F2 hml
  by_cases c1 : 300 < s.size
  · have d1 := lt_t (a := 300) (b := (s.size : Int)) (by omega)
    go_wp2_with fail
    go_ret
    exact ⟨rfl, t5⟩
  · have d1 := lt_f (a := 300) (b := (s.size : Int)) (by omega)
    have HR := Lib.hid (Rows_any s w5)
    obtain ⟨S1, S2⟩ := rowsF_small s.data.toList
    have hfit := rowsF_fit s.data.toList
    have hrw := read_write s.data.toList
    generalize rowsF s.data.toList = R at *
    obtain ⟨rs6, er6, pl6⟩ := R
    dsimp only at S1 S2 hfit hrw HR
    have RW := Lib.hid hrw
    clear hrw
    go_wp2_with fail
    refine HR.out.mono ?_
    rintro e w6 ⟨v6, rfl, r6, b6⟩
    obtain ⟨ad6, c6, rfl⟩ := r6.slice
    have a6 := Go.Joins.below_alloc1 w6 (.cells #[.int .i64 (er6 : Int), .int .i64 (pl6 : Int)] 26)
    have k6 := World.alloc_heap_new w6 (.cells #[.int .i64 (er6 : Int), .int .i64 (pl6 : Int)] 26)
    have H6 := Lib.hid (And.intro (r6.at_.below a6) (andThen t5 (b6.trans (a6.mono b6.size))))
    have x0 := cell2_0 k6
    clear HR r6 b6 a6 k6 t5
    by_cases c2 : er6 = 0
    · subst c2
      have HT := Lib.hid (Text_any _ _ rs6 H6.out.1 hfit S1)
      go_wp2_with fail
      refine HT.out.mono ?_
      rintro e w7 ⟨rfl, b7⟩
      have H7 := Lib.hid (And.intro (H6.out.1.below b7) (andThen H6.out.2 b7))
      clear HT b7 H6 x0
      obtain ⟨U, hU⟩ : ∃ U, U = textF rs6 := ⟨_, rfl⟩
      rw [← hU]
      rcases RW.out with h4 | ⟨h0, h1, h2, h3, h5⟩
      · rw [← hU] at h4
        obtain ⟨ut, ue⟩ := U
        dsimp only at h4
        subst h4
        clear hU RW
        go_wp2_with fail
        go_ret
        exact ⟨rfl, H7.out.2⟩
      · rw [← hU] at h0 h1 h2 h3 h5
        obtain ⟨ut, ue⟩ := U
        dsimp only at h0 h1 h2 h3 h5
        subst h0
        have HR := Lib.hid (Rows_any ⟨ut.toArray⟩ w7)
        rw [show (⟨ut.toArray⟩ : ByteArray).data.toList = ut from rfl] at HR
        obtain ⟨S3, S4⟩ := rowsF_small ut
        have hfit8 := rowsF_fit ut
        generalize rowsF ut = R8 at *
        obtain ⟨rs8, er8, pl8⟩ := R8
        dsimp only at S3 S4 hfit8 h2 h3 h5 HR
        subst h2
        have HG := Lib.hid (show Agree false rs6 rs8 from ⟨h3.symm, fun h => by cases h⟩)
        have H5 := Lib.hid h5
        clear h3 h5 hU RW h1
        go_wp2_with fail
        refine HR.out.mono ?_
        rintro e w8 ⟨v8, rfl, r8, b8⟩
        obtain ⟨ad8, c8, rfl⟩ := r8.slice
        have a8 := Go.Joins.below_alloc1 w8 (.cells #[.int .i64 0, .int .i64 (pl8 : Int)] 26)
        have k8 := World.alloc_heap_new w8 (.cells #[.int .i64 0, .int .i64 (pl8 : Int)] 26)
        have bb := b8.trans (a8.mono b8.size)
        have H8 := Lib.hid (And.intro (H7.out.1.below bb) (And.intro (r8.at_.below a8) (And.intro k8 (andThen H7.out.2 bb))))
        clear HR r8 b8 a8 k8 bb H7
        have HT := Lib.hid (Text_any _ _ rs8 H8.out.2.1 hfit8 S3)
        rw [H5.out] at HT
        go_wp2_with fail
        refine HT.out.mono ?_
        rintro e w9 ⟨rfl, b9⟩
        have H9 := Lib.hid (And.intro (H8.out.1.below b9) (And.intro (H8.out.2.1.below b9) (And.intro (heap_below H8.out.2.2.1 b9) (andThen H8.out.2.2.2 b9))))
        clear HT b9 H8
        have x0 := cell2_0 H9.out.2.2.1
        go_wp2_with fail
        refine (same_true _ _ _ rs6 rs8 false H9.out.1 H9.out.2.1 HG.out S1 S2).mono ?_
        rintro e w10 ⟨rfl, b10⟩
        have t10 := andThen H9.out.2.2.2 b10
        go_wp2_with fail
        go_ret
        exact ⟨rfl, t10⟩
    · have d2 : ((er6 : Int) != 0) = true := by rw [bne_iff_ne]; omega
      go_wp2_with fail
      go_ret
      exact ⟨rfl, H6.out.2⟩
end Go.Proofs.YtbcofimmfbmkoaaDoor
