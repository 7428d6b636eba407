/- What package cow returns: sharings that are made of changed tables. No walk here. -/
import Derived.Test.YtomndlnfidkdcaaDoorCowD
import Derived.Test.YtomndlnfidkdcaaDoorCowM
namespace Go.Proofs.YtomndlnfidkdcaaDoor
open Go Go.Proofs Go.RowKit Go.Maps
set_option linter.unusedSimpArgs false
set_option linter.unusedVariables false

theorem map_pack (l : List Nat) (h : ∀ x ∈ l, unpE x = 0) : (l.map entW).map packE = l := by
  rw [List.map_map]
  conv => rhs; rw [← List.map_id l]
  apply List.map_congr_left
  intro x hx
  exact pack_entW x (h x hx)
theorem shut_dec {t : Sh} (h : ∀ l ∈ t, ∀ x ∈ l, unpE x = 0) : (dec t).map (fun l => l.map packE) = t := by
  unfold dec
  rw [List.map_map]
  conv => rhs; rw [← List.map_id t]
  apply List.map_congr_left
  intro l hl
  exact map_pack l (h l hl)
theorem dec_at {t : Sh} {i : Nat} (hi : i < t.length) : (dec t)[i]? = some ((rowAt t i).map entW) := by
  unfold dec rowAt
  rw [List.getElem?_map, List.getD_eq_getElem?_getD, List.getElem?_eq_getElem hi]
  rfl
theorem row_at {t : Sh} {i j : Nat} (hj : j < (rowAt t i).length) : ((rowAt t i).map entW)[j]? = some (entW (wordAt t i j)) := by
  unfold wordAt
  rw [List.getElem?_map, List.getD_eq_getElem?_getD, List.getElem?_eq_getElem hj]
  rfl
theorem shut_put {t : Sh} (h : ∀ l ∈ t, ∀ x ∈ l, unpE x = 0) {i : Nat} (hi : i < t.length) (j : Nat) (e : En5) : ((dec t).set i (((rowAt t i).map entW).set j e)).map (fun l => l.map packE) = setW t i j (packE e) := by
  rw [List.map_set, shut_dec h, List.map_set, map_pack _ (h _ (rowAt_mem hi))]
  rfl
theorem set_ok {U : List (List En5)} (h : ∀ l ∈ U, ∀ e ∈ l, chkE e = 0) {i : Nat} {l : List En5} (hl : l ∈ U) (j : Nat) (e : En5) (he : chkE e = 0) : ∀ m ∈ U.set i (l.set j e), ∀ x ∈ m, chkE x = 0 := by
  intro m hm x hx
  rcases List.mem_or_eq_of_mem_set hm with hm | rfl
  · exact h m hm x hx
  · rcases List.mem_or_eq_of_mem_set hx with hx | rfl
    · exact h l hl x hx
    · exact he
theorem set_rows {U : List (List En5)} {N : Nat} (h : ∀ l ∈ U, l.length ≤ N) {i : Nat} {l : List En5} (hl : l ∈ U) (j : Nat) (e : En5) : ∀ m ∈ U.set i (l.set j e), m.length ≤ N := by
  intro m hm
  rcases List.mem_or_eq_of_mem_set hm with hm | rfl
  · exact h m hm
  · rw [List.length_set]; exact h l hl
theorem dec_chk {t : Sh} (h : ∀ l ∈ t, ∀ x ∈ l, unpE x = 0) : ∀ l ∈ dec t, ∀ e ∈ l, chkE e = 0 := by
  intro l hl e he
  obtain ⟨m, hm, rfl⟩ := List.mem_map.1 hl
  obtain ⟨x, hx, rfl⟩ := List.mem_map.1 he
  exact entW_chk x (h m hm x hx)
theorem dec_mem {t : Sh} {i : Nat} (hi : i < t.length) : (rowAt t i).map entW ∈ dec t := List.mem_map.2 ⟨_, rowAt_mem hi, rfl⟩
/-- A sharing that a call returned. -/
def ShO (w' : World) (v : Value) (t : Sh) : Prop := ∃ A c, v = .slice A t.length c ∧ RR uw 1 w' A t.length t ∧ t.length ≤ c
theorem ShO.nil (w : World) : ShO w (.slice none 0 0) [] := ⟨none, 0, rfl, RR.nil w, Nat.le_refl _⟩
theorem ShO.to {w w' : World} {v : Value} {t : Sh} (h : ShO w v t) (hb : Below w.heap.size w w') : ShO w' v t := by
  obtain ⟨A, c, e, hr, hc⟩ := h
  exact ⟨A, c, e, hr.to hb, hc⟩
/-- The entry that is to be changed, where its row was loaded before. -/
theorem UOv.put_at {w : World} {base ga g n c m cR : Nat} {U : List (List En5)} {vs : List Value} (h : UOv w base (.slice (some ⟨ga, 0, none⟩) n c) U vs) (hn : U.length = n) {i j : Nat} {l : List En5} {x : En5} (hi : U[i]? = some l) (hj : l[j]? = some x)
    (hc : w.cell? ⟨ga, i, none⟩ = some (.slice (some ⟨g, 0, none⟩) m cR)) :
    (∀ o, w.frozen? ⟨g, o, none⟩ = false) ∧ (w.cell? ⟨g, j * 5, none⟩ = some (.int .i64 x.1) ∧ w.cell? ⟨g, j * 5 + 1, none⟩ = some (.int .i64 x.2.1) ∧ w.cell? ⟨g, j * 5 + 2, none⟩ = some (.bool x.2.2.1) ∧ w.cell? ⟨g, j * 5 + 3, none⟩ = some (.bool x.2.2.2.1) ∧ w.cell? ⟨g, j * 5 + 4, none⟩ = some (.bool x.2.2.2.2)) ∧
      ∀ e, UOv (putEn w g j e) base (.slice (some ⟨ga, 0, none⟩) n c) (U.set i (l.set j e)) vs := by
  obtain ⟨ga', g', cR', e1, _, c1, _, _, _, hf, hcs, hput⟩ := h.put hn hi hj
  injection e1 with e1
  injection e1 with e1
  subst e1
  rw [hc] at c1
  injection c1 with c1
  injection c1 with c1
  injection c1 with c1
  injection c1 with c1
  subst c1
  exact ⟨hf, hcs, hput⟩
theorem rd_drew {w : World} {sz n : Nat} {A : Option Addr} {xs : List Value} (h : Rd w sz A n xs) : Rd w.drew sz A n xs := h
theorem results_tmp4 {fn : Func} {t u v x : Tmp} (h : fn.results = #[.tmp t, .tmp u, .tmp v, .tmp x]) (tmps : Array Value) (P : Program) (w : World) :
    (results fn tmps).run P w = .ok (.tuple #[tmps.getD t undef, tmps.getD u undef, tmps.getD v undef, tmps.getD x undef]) w := by
  simp [results, h]
theorem below_putEn {a W : World} {g : Nat} (h : Below a.heap.size a W) (hg : a.heap.size ≤ g) (q : Nat) (e : En5) : Below a.heap.size a (putEn W g q e) :=
  ((((h.setCell (p := ⟨g, q * 5, none⟩) hg _).setCell (p := ⟨g, q * 5 + 1, none⟩) hg _).setCell (p := ⟨g, q * 5 + 2, none⟩) hg _).setCell (p := ⟨g, q * 5 + 3, none⟩) hg _).setCell (p := ⟨g, q * 5 + 4, none⟩) hg _
theorem UOv.uo {w : World} {base : Nat} {vu : Value} {U : List (List En5)} {vs : List Value} (h : UOv w base vu U vs) : UO w 0 vu U := UO.less ⟨vs, h⟩ (Nat.zero_le _)
/-- alter, of the changes that were made just before. -/
theorem alterB_new (q : En5) (k n : Int) (a b c : Bool) (w : World) :
    Calls Tryd.prog 42 #[.agg #[.int .i64 k, .int .i64 n, .bool a, .bool b, .bool c], .slice (some ⟨w.heap.size + 1, 0, none⟩) 1 1]
      ((w.alloc (.cells #[.int .i64 q.1, .int .i64 q.2.1, .bool q.2.2.1, .bool q.2.2.2.1, .bool q.2.2.2.2] 61)).alloc (.cells #[.func (.func 72) #[] #[.pointer (some ⟨w.heap.size, 0, none⟩)]] 71)).drew
      fun e w' => e = .returned (.agg #[.int .i64 q.1, .int .i64 q.2.1, .bool q.2.2.1, .bool q.2.2.2.1, .bool q.2.2.2.2]) ∧ Below w.heap.size w w' := by
  have hr := Rd.new (w := w.alloc (.cells #[.int .i64 q.1, .int .i64 q.2.1, .bool q.2.2.1, .bool q.2.2.2.1, .bool q.2.2.2.2] 61)) (sz := 1) (n := 1) #[.func (.func 72) #[] #[.pointer (some ⟨w.heap.size, 0, none⟩)]] 71 rfl
  rw [World.size_alloc] at hr
  have hq := (Bk.new w (enC q) 61).alloc (.cells #[.func (.func 72) #[] #[.pointer (some ⟨w.heap.size, 0, none⟩)]] 71)
  refine (alterB_any q w.heap.size k n a b c _ 1 (World.drew _) (rd_drew hr) hq.drew).mono ?_
  rintro e w' ⟨he, hb⟩
  exact ⟨he, bnext (below_drew (balloc (balloc (Below.refl _ w) _) _)) hb⟩
/-- the same, of two changes. -/
theorem alterBO_new (q : En5) (k n : Int) (a b c : Bool) (w : World) :
    Calls Tryd.prog 42 #[.agg #[.int .i64 k, .int .i64 n, .bool a, .bool b, .bool c], .slice (some ⟨w.heap.size + 1, 0, none⟩) 2 2]
      ((w.alloc (.cells #[.int .i64 q.1, .int .i64 q.2.1, .bool q.2.2.1, .bool q.2.2.2.1, .bool q.2.2.2.2] 61)).alloc (.cells #[.func (.func 72) #[] #[.pointer (some ⟨w.heap.size, 0, none⟩)], .func (.func 53) #[] #[]] 71))
      fun e w' => e = .returned (.agg #[.int .i64 (ownE q).1, .int .i64 (ownE q).2.1, .bool (ownE q).2.2.1, .bool (ownE q).2.2.2.1, .bool (ownE q).2.2.2.2]) ∧ Below w.heap.size w w' := by
  have hr := Rd.new (w := w.alloc (.cells #[.int .i64 q.1, .int .i64 q.2.1, .bool q.2.2.1, .bool q.2.2.2.1, .bool q.2.2.2.2] 61)) (sz := 1) (n := 2) #[.func (.func 72) #[] #[.pointer (some ⟨w.heap.size, 0, none⟩)], .func (.func 53) #[] #[]] 71 rfl
  rw [World.size_alloc] at hr
  have hq := (Bk.new w (enC q) 61).alloc (.cells #[.func (.func 72) #[] #[.pointer (some ⟨w.heap.size, 0, none⟩)], .func (.func 53) #[] #[]] 71)
  refine (alterBO_any q w.heap.size k n a b c _ 2 _ hr hq).mono ?_
  rintro e w' ⟨he, hb⟩
  exact ⟨he, bnext (balloc (balloc (Below.refl _ w) _) _) hb⟩
theorem alterB_new0 (q : En5) (k n : Int) (a b c : Bool) (w : World) :
    Calls Tryd.prog 42 #[.agg #[.int .i64 k, .int .i64 n, .bool a, .bool b, .bool c], .slice (some ⟨w.heap.size + 1, 0, none⟩) 1 1]
      ((w.alloc (.cells #[.int .i64 q.1, .int .i64 q.2.1, .bool q.2.2.1, .bool q.2.2.2.1, .bool q.2.2.2.2] 61)).alloc (.cells #[.func (.func 72) #[] #[.pointer (some ⟨w.heap.size, 0, none⟩)]] 71))
      fun e w' => e = .returned (.agg #[.int .i64 q.1, .int .i64 q.2.1, .bool q.2.2.1, .bool q.2.2.2.1, .bool q.2.2.2.2]) ∧ Below w.heap.size w w' := by
  have hr := Rd.new (w := w.alloc (.cells #[.int .i64 q.1, .int .i64 q.2.1, .bool q.2.2.1, .bool q.2.2.2.1, .bool q.2.2.2.2] 61)) (sz := 1) (n := 1) #[.func (.func 72) #[] #[.pointer (some ⟨w.heap.size, 0, none⟩)]] 71 rfl
  rw [World.size_alloc] at hr
  have hq := (Bk.new w (enC q) 61).alloc (.cells #[.func (.func 72) #[] #[.pointer (some ⟨w.heap.size, 0, none⟩)]] 71)
  refine (alterB_any q w.heap.size k n a b c _ 1 _ hr hq).mono ?_
  rintro e w' ⟨he, hb⟩
  exact ⟨he, bnext (balloc (balloc (Below.refl _ w) _) _) hb⟩
/-- alter, of share, of own, of share and forget: the slice was made just before. -/
theorem alterS_new (k n : Int) (a b c : Bool) (w : World) :
    Calls Tryd.prog 42 #[.agg #[.int .i64 k, .int .i64 n, .bool a, .bool b, .bool c], .slice (some ⟨w.heap.size, 0, none⟩) 1 1] (w.alloc (.cells #[.func (.func 43) #[] #[]] 71))
      fun e w' => e = .returned (enV (shareE (k, n, a, b, c))) ∧ Below w.heap.size w w' :=
  (alterS_any k n a b c _ 1 _ (Rd.new (w := w) (sz := 1) (n := 1) #[.func (.func 43) #[] #[]] 71 rfl)).mono fun e w' h => ⟨h.1, bnext (balloc (Below.refl _ w) _) h.2⟩
theorem alterO_new (k n : Int) (a b c : Bool) (w : World) :
    Calls Tryd.prog 42 #[.agg #[.int .i64 k, .int .i64 n, .bool a, .bool b, .bool c], .slice (some ⟨w.heap.size, 0, none⟩) 1 1] (w.alloc (.cells #[.func (.func 53) #[] #[]] 71))
      fun e w' => e = .returned (.agg #[.int .i64 k, .int .i64 n, .bool true, .bool false, .bool c]) ∧ Below w.heap.size w w' :=
  (alterO_any k n a b c _ 1 _ (Rd.new (w := w) (sz := 1) (n := 1) #[.func (.func 53) #[] #[]] 71 rfl)).mono fun e w' h => ⟨h.1, bnext (balloc (Below.refl _ w) _) h.2⟩
theorem alterO_newD (k n : Int) (a b c : Bool) (w : World) :
    Calls Tryd.prog 42 #[.agg #[.int .i64 k, .int .i64 n, .bool a, .bool b, .bool c], .slice (some ⟨w.heap.size, 0, none⟩) 1 1] (w.alloc (.cells #[.func (.func 53) #[] #[]] 71)).drew
      fun e w' => e = .returned (.agg #[.int .i64 k, .int .i64 n, .bool true, .bool false, .bool c]) ∧ Below w.heap.size w w' :=
  (alterO_any k n a b c _ 1 _ (rd_drew (Rd.new (w := w) (sz := 1) (n := 1) #[.func (.func 53) #[] #[]] 71 rfl))).mono fun e w' h => ⟨h.1, bnext (below_drew (balloc (Below.refl _ w) _)) h.2⟩
theorem alterC_new (k n : Int) (a b c : Bool) (w : World) :
    Calls Tryd.prog 42 #[.agg #[.int .i64 k, .int .i64 n, .bool a, .bool b, .bool c], .slice (some ⟨w.heap.size, 0, none⟩) 2 2] (w.alloc (.cells #[.func (.func 43) #[] #[], .func (.func 44) #[] #[]] 71))
      fun e w' => e = .returned (enV (forgetE (shareE (k, n, a, b, c)))) ∧ Below w.heap.size w w' :=
  (alterC_any k n a b c _ 2 _ (Rd.new (w := w) (sz := 1) (n := 2) #[.func (.func 43) #[] #[], .func (.func 44) #[] #[]] 71 rfl)).mono fun e w' h => ⟨h.1, bnext (balloc (Below.refl _ w) _) h.2⟩
/-- shut, of a table in which one entry was changed. -/
theorem shut_changed {w : World} {A : Option Addr} {n c : Nat} {t : Sh} {i j : Nat} {e : En5} (hU : UO w 0 (.slice A n c) ((dec t).set i (((rowAt t i).map entW).set j e))) (hv : ShV t) (hi : i < t.length) (hl : t.length = n) (hn : n ≤ 11) (he : chkE e = 0) (hL : LayOK w) :
    Calls Tryd.prog 45 #[.slice A n c] w fun e' w' => (∃ v, e' = .returned v ∧ ShO w' v (setW t i j (packE e))) ∧ Below w.heap.size w w' := by
  have hlen : ((dec t).set i (((rowAt t i).map entW).set j e)).length = n := by rw [List.length_set, dec_len]; exact hl
  refine (shut_any A n c _ w hn (hU.rr hlen) (set_rows (dec_rows fun l hl => by have := hv.row l hl; omega) (dec_mem hi) j e) (set_ok (dec_chk hv.ok) (dec_mem hi) j e he) hL).mono ?_
  rintro e' w' ⟨rfl, hR, hb⟩
  rw [shut_put hv.ok hi] at hR
  have hl2 : (setW t i j (packE e)).length = n := by rw [setW_len]; exact hl
  exact ⟨⟨_, rfl, _, _, by rw [hl2], by rw [hl2]; exact hR, Nat.le_of_eq hl2⟩, hb⟩
end Go.Proofs.YtomndlnfidkdcaaDoor
