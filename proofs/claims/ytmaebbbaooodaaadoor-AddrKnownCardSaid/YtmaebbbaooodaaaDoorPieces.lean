/- What addr.Pieces returns. -/
import Derived.Test.YtmaebbbaooodaaaDoorPages
namespace Go.Proofs.YtmaebbbaooodaaaDoor
open Go Go.Proofs Go.RowKit Go.Shelf
set_option linter.unusedSimpArgs false
set_option linter.unusedVariables false
attribute [local go_sem] Oper.semAt_some

/-- One page more: it goes into the last piece if that has its leaf, else it begins one. -/
def pieceAdd (l : List (Int × Int)) (p : Int) : List (Int × Int) :=
  match l.getLast? with
  | some r => if r.1 / 8 = p / 8 then l.dropLast ++ [(r.1, p)] else l ++ [(p, p)]
  | none => [(p, p)]
def piecesF (l : List Pg) : List (Int × Int) := l.foldl (fun a p => pieceAdd a p.1) []
def pieces (a b : Int) : List (Int × Int) := piecesF (pgs a (b - a + 1).toNat)
theorem piecesF_snoc (l : List Pg) (p : Pg) : piecesF (l ++ [p]) = pieceAdd (piecesF l) p.1 := by simp [piecesF]
theorem pieceAdd_len (l : List (Int × Int)) (p : Int) : (pieceAdd l p).length ≤ l.length + 1 := by
  unfold pieceAdd
  split
  · split
    · simp <;> omega
    · simp
  · simp
theorem piecesF_len (l : List Pg) : (piecesF l).length ≤ l.length := by
  suffices h : ∀ (l : List Pg) (a : List (Int × Int)), (l.foldl (fun a p => pieceAdd a p.1) a).length ≤ a.length + l.length by
    simpa [piecesF] using h l []
  intro l
  induction l with
  | nil => intro a; simp
  | cons p l ih =>
    intro a
    have h1 := ih (pieceAdd a p.1)
    have h2 := pieceAdd_len a p.1
    simp only [List.foldl_cons, List.length_cons]
    omega

theorem pieceAdd_bd (l : List (Int × Int)) (p : Int) (h0 : 0 ≤ p) (h1 : p < 64) (h : ∀ r ∈ l, 0 ≤ r.1 ∧ r.1 < 64) : ∀ r ∈ pieceAdd l p, 0 ≤ r.1 ∧ r.1 < 64 := by
  intro r hr
  unfold pieceAdd at hr
  split at hr
  · rename_i q hq
    have hm := List.mem_of_getLast? hq
    split at hr
    · rcases List.mem_append.1 hr with hr | hr
      · exact h r (List.dropLast_subset _ hr)
      · simp at hr; subst hr; exact h q hm
    · rcases List.mem_append.1 hr with hr | hr
      · exact h r hr
      · simp at hr; subst hr; exact ⟨h0, h1⟩
  · simp at hr; subst hr; exact ⟨h0, h1⟩
theorem piecesF_bd (l : List Pg) : ∀ r ∈ piecesF l, 0 ≤ r.1 ∧ r.1 < 64 := by
  suffices h : ∀ (l : List Pg) (a : List (Int × Int)), (∀ r ∈ a, 0 ≤ r.1 ∧ r.1 < 64) → ∀ r ∈ l.foldl (fun a p => pieceAdd a p.1) a, 0 ≤ r.1 ∧ r.1 < 64 from
    h l [] (by simp)
  intro l
  induction l with
  | nil => intro a h; simpa using h
  | cons p l ih => intro a h; exact ih _ (pieceAdd_bd a p.1 p.2.1 p.2.2 h)
theorem pieceAdd_same (l : List (Int × Int)) (r : Int × Int) (p : Int) (h : r.1 / 8 = p / 8) : pieceAdd (l ++ [r]) p = l ++ [(r.1, p)] := by simp [pieceAdd, h]
theorem pieceAdd_next (l : List (Int × Int)) (r : Int × Int) (p : Int) (h : r.1 / 8 ≠ p / 8) : pieceAdd (l ++ [r]) p = l ++ [r] ++ [(p, p)] := by simp [pieceAdd, h]
theorem flat2_set (k : IntKind) (l : List (Int × Int)) (r : Int × Int) (p : Int) : (flat2 k (l ++ [r])).set (l.length * 2 + 1) (.int k p) = flat2 k (l ++ [(r.1, p)]) := by
  rw [flat2_append, flat2_append, List.set_append_right _ _ (by rw [flat2_len]; omega), flat2_len, show l.length * 2 + 1 - l.length * 2 = 1 by omega]
  rfl

/-- Between two pages: the box holds the pieces so far. -/
def PiecesI (w w1 : World) (pre : List Pg) (W : World) : Prop :=
  (∃ v, Boxed W w1.heap.size 37 v ∧ W.ownsRow (w1.heap.size + 2) 23 2 v (piecesF pre).length (flat2 .i64 (piecesF pre)) ∧ True) ∧ Below w.heap.size w W ∧ w1.heap.size + 2 ≤ W.heap.size
theorem infoRange : (Tryd.prog.info? 23).map (fun i => (i.zero, i.size, i.bytes)) = some (some (.agg #[.int .i64 0, .int .i64 0]), 2, 16) := by kernel_rfl

set_option maxRecDepth 100000 in
set_option maxHeartbeats 2000000 in
theorem Pieces_ok (a b : Int) (w : World) (h0 : 0 ≤ a) (h1 : a ≤ b) (h2 : b < 64) :
    Calls Tryd.prog 16 #[.agg #[.int .i64 a, .int .i64 b]] w fun e w' => ∃ v, e = .returned (.tuple #[v, .int .i64 0]) ∧
      w'.ownsRow w.heap.size 23 2 v (pieces a b).length (flat2 .i64 (pieces a b)) ∧ Below w.heap.size w w' := by
  obtain ⟨i0, hi, hz0, hz1, hz2⟩ := info_parts infoRange
  have hF : ∀ f, Fence.wide.fn f := fun _ => trivial
  refine (callsIn_wide (n := 4)).1 ?_
  refine callsIn_of_wp_marks Tryd.func16 rfl trivial ?_ rfl
  simp only [Tryd.ntmps16, List.size_toArray, List.length_cons, List.length_nil, Nat.reduceAdd, Nat.reduceSub, Array.replicate_succ, Array.replicate_zero, List.push_toArray, List.append_toArray, List.nil_append, List.cons_append]
  gi_wp2_with (first
    | (gi_at_call 22; refine (callsIn_wide.2 (Check_okB _ _ _ h0 h1 h2)).mono ?_; rintro e w1 ⟨rfl, hb1⟩; obtain ⟨c0, c1, hz, hB1⟩ := box2 hb1; clear hb1)
    | (gi_at_call 31; refine (pages_in Fence.wide 3 trivial rfl _ _ _).mono ?_; rintro e w' ⟨rfl, rfl⟩))
  have bO := Boxed.new w1 37 (.slice none 0 0)
  have bO2 := bO.alloc (.cells #[.int .i64 a, .int .i64 b] 23)
  have hB0 : Below w.heap.size w ((w1.alloc (.cells #[.slice none 0 0] 37)).alloc (.cells #[.int .i64 a, .int .i64 b] 23)) := (hB1.alloc hB1.size _).alloc (by have := hB1.size; simp; omega) _
  refine wpIn_rangeFunc_ownG rfl (by omega) (gf := 34) (lb := #[.pointer (some ⟨w1.heap.size + 1, 0, none⟩)]) rfl trivial (enters_of Tryd.func34 (by kernel_rfl) rfl)
    (pages_stops Fence.wide 3 trivial rfl (by omega) (w1.heap.size + 1) a b h0 h1 h2 _ (by simp) (by simp) (by simp)) keepB_t (keepB_b (by simp)) (Below.refl _ _) (fun _ => rfl)
    (PiecesI w w1)
    (fun _ _ _ => False)
    ?hI (fun _ _ _ _ _ hs _ _ => hs) ?h0
    (fun x => { tmps := #[.agg #[.int .i64 a, .int .i64 b], .pointer (some ⟨w.heap.size, 0, none⟩), .slice none 0 0, .int .i64 0, .int .i64 0, .pointer (some ⟨w1.heap.size, 0, none⟩), .int .i64 x.1, undef, .agg #[.int .i64 a, .int .i64 b], .int .i64 0, .int .i64 0, .bool false, undef, .agg #[.int .i64 a, .int .i64 b], .func (.func 34) #[] #[.pointer (some ⟨w1.heap.size + 1, 0, none⟩)], .int .i64 x.1, undef, undef, undef, undef, undef, undef, undef, undef, undef, undef, undef, undef, undef, undef, undef, undef, undef, undef, undef, undef, undef, undef, undef, undef, undef, undef, undef, undef, undef], defers := [] }) ?assign ?body ?done ?stop
  case hI => exact OwnFrom.and (Own.from (holdsRow_own (w1.heap.size + 2) w1.heap.size 37 23 2 (fun pre => (piecesF pre).length) (fun pre => flat2 .i64 (piecesF pre)) (fun _ _ => True)) _) (OwnFrom.and (ownFrom_below (Nat.le_refl _) (by have := hB1.size; simp; omega)) (fun _ _ _ _ hs hg _ => Nat.le_trans hs hg.size))
  case h0 => exact ⟨⟨_, bO2, World.ownsRow_nil _ _ _ _, trivial⟩, hB0, by simp⟩
  case assign =>
    intro l x W K hK
    gi_wp2
    exact hK
  case body =>
    rintro l pre x W ⟨⟨v, hbx, hrow, _⟩, hBW, hsz⟩ hlen
    have hx0 := x.2.1
    have hx1 := x.2.2
    have hbd := piecesF_bd pre
    have hpl := piecesF_len pre
    have hsn := piecesF_snoc pre x
    have Hsn := Lib.hid hsn
    clear hsn
    obtain ⟨x, hx⟩ := x
    simp only at hx0 hx1
    rcases List.eq_nil_or_concat (piecesF pre) with hnil | ⟨l', r, hcon⟩
    · rw [hnil] at hrow hpl
      obtain ⟨A, c, rfl⟩ : ∃ A c, v = .slice A 0 c := by
        rcases hrow.2 with ⟨rfl, _⟩ | ⟨g, cap, cur, rfl, _⟩
        · exact ⟨_, _, rfl⟩
        · exact ⟨_, _, rfl⟩
      have hc0 := hbx.cell
      have hf0 := hbx.frozen
      gi_wp2_with (gi_at_builtin; refine wpListIn_append_own _ rfl _ _ 37 rfl (w1.heap.size + 2) 23 i0 (.agg #[.int .i64 0, .int .i64 0]) 2 16 Tryd.underlying37 hi hz0 hz1 hz2 rfl (by decide) _ _ _ rfl (hrow.alloc _) ⟨W.heap.size, 0, none⟩ 1 1 [.int .i64 x, .int .i64 x] rfl rfl (cell_two_new _ _ _ _) (by simp [Value.oneCell']) (by simp only [maxLen]; omega) (by omega) (by simp; omega) ?_; intro v' w2 hown' hgrow _; obtain ⟨g', cap', rfl⟩ := ownsRow_succ hown'; obtain ⟨hv1, hv2, hr2, hk2, hb2, hkb⟩ := boxed_append (n₀ := w.heap.size) hbx hrow (by omega) (by omega) hsz hown' hgrow; have hc1 := hv1.cell; have hf1 := hv1.frozen)
      refine ⟨hk2.from _, hkb _ (by omega) (by omega), ⟨_, hv2, ?_, trivial⟩, hBW.trans hb2, Nat.le_trans hsz hb2.size⟩
      rw [Hsn.out, hnil]
      exact hr2
    · rw [List.concat_eq_append] at hcon
      have hr0 := hbd r (by rw [hcon]; simp)
      obtain ⟨hr1, hr2'⟩ := hr0
      rw [hcon] at hrow hpl
      have hnn : (l' ++ [r]).length = l'.length + 1 := by simp
      rw [hnn] at hrow hpl
      obtain ⟨g, cap, rfl, hgb, hgl⟩ := hrow.form (by omega)
      have hc0 := hbx.cell
      have hf0 := hbx.frozen
      have hcr : W.cell? ⟨g, l'.length * 2, none⟩ = some (.int .i64 r.1) := by
        rw [hrow.cellAt _ (by omega)]
        have := (flat2_at .i64 (l' ++ [r]) l'.length r (by simp)).1
        rwa [show 2 * l'.length = l'.length * 2 by omega] at this
      have hcs : W.cell? ⟨g, l'.length * 2 + 1, none⟩ = some (.int .i64 r.2) := by
        rw [hrow.cellAt _ (by omega)]
        have := (flat2_at .i64 (l' ++ [r]) l'.length r (by simp)).2
        rwa [show 2 * l'.length + 1 = l'.length * 2 + 1 by omega] at this
      have hfr := hrow.frozenAt (l'.length * 2 + 1)
      clear hbd hnn
      have hl64 : l'.length < 64 := by omega
      by_cases hs : r.1 / 8 = x / 8
      · have hs' : (r.1 / 8 == x / 8) = true := by simpa using hs
        have HS := Lib.hid hs
        have HC := Lib.hid hcon
        clear hs hcon
        gi_wp2_with (gi_at_call 30; refine (CallsIn.inRound l (callsIn_wide.2 (leafOf_any _ _ (by omega) (by omega)))).mono ?_; rintro e w' ⟨rfl, rfl⟩)
        obtain ⟨hst, hgw⟩ := hrow.stored (l'.length * 2 + 1) (.int .i64 x)
        refine ⟨(KeepsOthers.setCell _ _ _).from _, Below.heap_setCell W ⟨g, l'.length * 2 + 1, none⟩ _ _ (by show w1.heap.size + 1 ≠ g; omega), ⟨_, hbx.kept hgw (by simp; omega), ?_, trivial⟩, hBW.setCell (p := ⟨g, l'.length * 2 + 1, none⟩) (by show w.heap.size ≤ g; omega) _, Nat.le_trans hsz hgw.size⟩
        rw [Hsn.out, HC.out, pieceAdd_same _ _ _ HS.out, ← flat2_set]
        simpa using hst
      · have hs' : (r.1 / 8 == x / 8) = false := by simpa using hs
        have HS := Lib.hid hs
        have HC := Lib.hid hcon
        clear hs hcon
        gi_wp2_with (first | (gi_at_call 30; refine (CallsIn.inRound l (callsIn_wide.2 (leafOf_any _ _ (by omega) (by omega)))).mono ?_; rintro e w' ⟨rfl, rfl⟩) | (gi_at_builtin; refine wpListIn_append_own _ rfl _ _ 37 rfl (w1.heap.size + 2) 23 i0 (.agg #[.int .i64 0, .int .i64 0]) 2 16 Tryd.underlying37 hi hz0 hz1 hz2 rfl (by decide) _ _ _ rfl (hrow.alloc _) ⟨W.heap.size, 0, none⟩ 1 1 [.int .i64 x, .int .i64 x] rfl rfl (cell_two_new _ _ _ _) (by simp [Value.oneCell']) (by simp only [maxLen]; omega) (by omega) (by simp; omega) ?_; intro v' w2 hown' hgrow _; obtain ⟨g', cap', rfl⟩ := ownsRow_succ hown'; obtain ⟨hv1, hv2, hr2, hk2, hb2, hkb⟩ := boxed_append (n₀ := w.heap.size) hbx hrow (by omega) (by omega) hsz hown' hgrow; have hc1 := hv1.cell; have hf1 := hv1.frozen))
        refine ⟨hk2.from _, hkb _ (by omega) (by omega), ⟨_, hv2, ?_, trivial⟩, hBW.trans hb2, Nat.le_trans hsz hb2.size⟩
        rw [Hsn.out, HC.out, pieceAdd_next _ _ _ HS.out, flat2_append, show (l' ++ [r] ++ [(x, x)]).length = l'.length + 1 + 1 by simp]
        exact hr2
  case done =>
    rintro D ys W hD rfl ⟨⟨v, hbx, hrow, _⟩, hBW, hsz⟩ hK
    have hc0 := hbx.cell
    gi_wp2
    refine ⟨by simp, .inl ⟨_, _, rfl, run_takeDeferred hK, ?_⟩⟩
    simp at hD
    exact ⟨_, results_tmp2 rfl _ _ _, v, rfl, ownsRow_less (ownsRow_putObj hrow _ hK rfl) (by omega), hBW.trans (belowK_b (w := w) (Nat.le_refl _) W D _ _ (by omega) hK rfl rfl)⟩
  case stop =>
    rintro D c pre W _ _ h _
    exact h.elim

theorem Pieces_rd (a b : Int) (w : World) (h0 : 0 ≤ a) (h1 : a ≤ b) (h2 : b < 64) :
    Calls Tryd.prog 16 #[.agg #[.int .i64 a, .int .i64 b]] w fun e w' => ∃ A c, e = .returned (.tuple #[.slice A (pieces a b).length c, .int .i64 0]) ∧
      Rd w' 2 A (pieces a b).length (flat2 .i64 (pieces a b)) ∧ Below w.heap.size w w' :=
  (Pieces_ok a b w h0 h1 h2).mono fun _ _ ⟨_, he, hr, hb⟩ => by
    obtain ⟨A, c, rfl, hrd⟩ := own_slice hr
    exact ⟨A, c, he, hrd, hb⟩

set_option maxHeartbeats 400000 in
theorem Pieces_bad (a b : Int) (w : World) (h : a < 0 ∨ b < a ∨ 64 ≤ b) :
    Calls Tryd.prog 16 #[.agg #[.int .i64 a, .int .i64 b]] w fun e w' => e = .returned (.tuple #[.slice none 0 0, .int .i64 2]) ∧ Below w.heap.size w w' := by
  have H := Lib.hid h
  clear h
  go_enter Tryd.func16, Tryd.ntmps16
  go_wp2_with (go_at_call 22; refine (Check_badB _ _ _ H.out).mono ?_; rintro e w1 ⟨rfl, hb1⟩; obtain ⟨c0, c1, hz, hB1⟩ := box2 hb1; clear hb1)
  go_ret2
  exact ⟨rfl, hB1⟩

end Go.Proofs.YtmaebbbaooodaaaDoor
