/- What the claim's proof leans on, part 17: walks of functions and plain laws. -/
import Derived.Test.YtlpcdpkgnfdpeaaGreatDoorSA
import Derived.Test.YtlpcdpkgnfdpeaaGreatDoorSI
import Derived.Test.YtlpcdpkgnfdpeaaGreatDoorSB
import Derived.Test.YtlpcdpkgnfdpeaaGreatDoorSH
import Derived.Test.YtlpcdpkgnfdpeaaGreatDoorSF
import Derived.Laws.CopyOwn
import Derived.Laws.OwnMore
import Derived.Test.YtlpcdpkgnfdpeaaGreatDoorSZE
import Derived.Test.YtlpcdpkgnfdpeaaGreatDoorSZQ
import Derived.Laws.AppendOwnNone
set_option linter.unusedSimpArgs false
set_option linter.unusedVariables false
set_option maxRecDepth 100000
set_option maxHeartbeats 80000000
namespace P13
open P12 (T St E)
structure Ky where
 name : T := []
 cols : List Nat := []
 uniq : Bool := false
 prim : Bool := false
 deriving DecidableEq
structure Tb where
 name : T := []
 cols : List (T × Int × Bool) := []
 keys : List Ky := []
 checks : List E := []
abbrev Sch := List Tb
def find (s : Sch) (n : T) : Option Nat := s.findIdx? fun t => t.name == n
abbrev Cols := List (T × Int × Bool)
def column (cs : Cols) (n : T) : Option Nat := cs.findIdx? fun c => c.1 == n
def hasN (s : Sch) (n : T) : Bool := (find s n).isSome || s.any fun t => t.keys.any fun k => k.name == n
def twice {α : Type} [BEq α] (l : List α) : Bool := (List.range l.length).any fun i => match l[i]? with
 | some x => (l.take i).contains x
 | none => false
def places (cs : Cols) : List T → Option (List Nat)
 | [] => some []
 | n :: l => match column cs n with
  | none => none
  | some i => match places cs l with
   | none => none
   | some r => some (i :: r)
def ofTb (t : P12.Tb) : Tb := { name := t.name, cols := t.cols, keys := t.keys.map fun p => { uniq := true, prim := p }, checks := t.checks }
def markCols (cols : Cols) (p : Bool) (l : List Nat) : Cols := cols.mapIdx fun i c => (c.1, c.2.1, c.2.2 || (p && l.contains i))
def setKeys : Tb → Nat → List (List T) → Except Int Tb
 | t, _, [] => .ok t
 | t, i, l :: r => match places t.cols l with
  | none => .error 132
  | some cs =>
   let k := t.keys.getD i {}
   setKeys { t with keys := t.keys.set i { k with cols := cs }, cols := markCols t.cols k.prim cs } (i + 1) r
def creates (s : Sch) (x : St) : Except Int Sch :=
 let t := ofTb x.tb
 if hasN s t.name then .error 131
 else if decide (8 ≤ s.length) || decide (t.cols.length < 1) || decide (8 < t.cols.length) || decide (8 < t.keys.length) || x.keyCols.any (fun l => decide (3 < l.length)) then .error 134
 else if twice (t.cols.map (·.1)) || x.keyCols.any (fun l => twice l) || decide (1 < (x.tb.keys.filter id).length) then .error 133
 else match setKeys t 0 x.keyCols with
  | .error e => .error e
  | .ok t => .ok (s ++ [t])
def indexes (s : Sch) (x : St) : Except Int Sch := match find s x.on with
 | none => .error 130
 | some i =>
  let t := s.getD i {}
  if hasN s x.name then .error 131
  else if decide (8 ≤ t.keys.length) || decide (3 < x.cols.length) then .error 134
  else match places t.cols x.cols with
   | none => .error 132
   | some cs => if twice cs then .error 133 else .ok (s.set i { t with keys := t.keys ++ [{ name := x.name, cols := cs, uniq := x.unique }] })
def applied (s : Sch) (x : St) : Except Int Sch := if x.kind = 1 then creates s x else if x.kind = 3 then indexes s x else .error 136
def colNames (cs : Cols) (l : List Nat) : List T := l.map fun c => (cs.getD c ([], 0, false)).1
def createOf (t : Tb) : St := { kind := 1, tb := { name := t.name, cols := t.cols, keys := (t.keys.filter fun k => k.name == []).map (·.prim), checks := t.checks }, keyCols := (t.keys.filter fun k => k.name == []).map fun k => colNames t.cols k.cols }
def indexOf (t : Tb) (k : Ky) : St := { kind := 3, name := k.name, on := t.name, unique := k.uniq, cols := colNames t.cols k.cols }
def defsT (t : Tb) : List St := createOf t :: (t.keys.filter fun k => k.name != []).map (indexOf t)
def defs (s : Sch) : List St := s.flatMap defsT
def run : Sch → List St → Except Int Sch
 | s, [] => .ok s
 | s, x :: l => match applied s x with
  | .error e => .error e
  | .ok s => run s l
theorem run_append (s : Sch) (a b : List St) : run s (a ++ b) = match run s a with
  | .error e => .error e
  | .ok s => run s b := by
 induction a generalizing s with
 | nil => rfl
 | cons x a ih =>
  simp only [List.cons_append, run]
  cases applied s x with
  | error e => rfl
  | ok s => exact ih s
def keyOk (t : Tb) (k : Ky) : Bool := decide (1 ≤ k.cols.length) && decide (k.cols.length ≤ 3) && k.cols.all (fun c => decide (c < t.cols.length) && (!k.prim || (t.cols.getD c ([], 0, false)).2.2)) && !twice k.cols &&
 (if k.name == [] then k.uniq else !k.prim)
def tabWF (t : Tb) : Bool := t.name != [] && decide (1 ≤ t.cols.length) && decide (t.cols.length ≤ 8) && decide (t.keys.length ≤ 8) && decide (t.cols.map (·.1)).Nodup && t.keys.all (keyOk t) && decide ((t.keys.filter (·.prim)).length ≤ 1) &&
 decide (t.keys = (t.keys.filter fun k => k.name == []) ++ (t.keys.filter fun k => k.name != []))
def namesT (t : Tb) : List T := t.name :: (t.keys.filter fun k => k.name != []).map (·.name)
def names (s : Sch) : List T := s.flatMap namesT
def wf (s : Sch) : Bool := decide (s.length ≤ 8) && s.all tabWF && decide (names s).Nodup
theorem has_names (s : Sch) (n : T) (hn : n ≠ []) : hasN s n = true ↔ n ∈ names s := by
 have h1 : hasN s n = true ↔ (∃ t ∈ s, t.name = n) ∨ ∃ t ∈ s, ∃ k ∈ t.keys, k.name = n := by
  simp only [hasN, find, Bool.or_eq_true, List.findIdx?_isSome, List.any_eq_true, beq_iff_eq]
 have h2 : n ∈ names s ↔ ∃ t ∈ s, n = t.name ∨ ∃ k, (k ∈ t.keys ∧ k.name ≠ []) ∧ k.name = n := by
  simp only [names, List.mem_flatMap, namesT, List.mem_cons, List.mem_map, List.mem_filter, bne_iff_ne]
 rw [h1, h2]
 constructor
 ·rintro (⟨t, ht, e⟩ | ⟨t, ht, k, hk, e⟩)
  ·exact ⟨t, ht, .inl e.symm⟩
  ·exact ⟨t, ht, .inr ⟨k, ⟨hk, by rw [e]; exact hn⟩, e⟩⟩
 ·rintro ⟨t, ht, e | ⟨k, ⟨hk, -⟩, e⟩⟩
  ·exact .inl ⟨t, ht, e.symm⟩
  ·exact .inr ⟨t, ht, k, hk, e⟩
theorem twice_no {α : Type} [BEq α] [LawfulBEq α] {l : List α} (h : l.Nodup) : twice l = false := by
 rw [Bool.eq_false_iff]
 intro ht
 simp only [twice, List.any_eq_true, List.mem_range] at ht
 obtain ⟨i, hi, hc⟩ := ht
 rw [List.getElem?_eq_getElem hi] at hc
 simp only [List.contains_iff_mem] at hc
 obtain ⟨j, hj, e⟩ := List.getElem_of_mem hc
 rw [List.getElem_take] at e
 have hj' : j < i := by simp at hj; omega
 exact (List.pairwise_iff_getElem.1 h) j i (by omega) hi hj' e
theorem column_at {cs : Cols} (h : (cs.map (·.1)).Nodup) {c : Nat} (hc : c < cs.length) : column cs (cs.getD c ([], 0, false)).1 = some c := by
 have e : cs.getD c ([], 0, false) = cs[c] := by rw [List.getD_eq_getElem?_getD, List.getElem?_eq_getElem hc]; rfl
 rw [e]
 unfold column
 rw [List.findIdx?_eq_some_iff_getElem]
 refine ⟨hc, by simp, fun j hj => ?_⟩
 have := (List.pairwise_iff_getElem.1 h) j c (by simp; omega) (by simpa using hc) hj
 simpa using this
theorem places_at {cs : Cols} (h : (cs.map (·.1)).Nodup) : ∀ {l : List Nat}, (∀ c ∈ l, c < cs.length) → places cs (colNames cs l) = some l
 | [], _ => rfl
 | c :: l, hl => by
  show (match column cs (cs.getD c ([], 0, false)).1 with | none => none | some i => match places cs (colNames cs l) with | none => none | some r => some (i :: r)) = _
  rw [column_at h (hl c (by simp)), places_at h (fun d hd => hl d (by simp [hd]))]
theorem mark_same {cs : Cols} {p : Bool} {l : List Nat} (h : ∀ c ∈ l, p = true → (cs.getD c ([], 0, false)).2.2 = true) : markCols cs p l = cs := by
 apply List.ext_getElem (by simp [markCols])
 intro i h1 h2
 simp only [markCols, List.getElem_mapIdx]
 cases hc : (p && l.contains i)
 ·simp
 ·simp only [Bool.and_eq_true, List.contains_iff_mem] at hc
  have := h i hc.2 hc.1
  rw [List.getD_eq_getElem?_getD, List.getElem?_eq_getElem h2] at this
  simp only [Option.getD_some] at this
  rw [Bool.or_true, ← this]
theorem names_nodup {cs : Cols} (h : (cs.map (·.1)).Nodup) {l : List Nat} (hl : ∀ c ∈ l, c < cs.length) (hn : l.Nodup) : (colNames cs l).Nodup := by
 rw [colNames, List.Nodup, List.pairwise_map]
 refine List.Pairwise.imp_of_mem (fun {a b} ha hb hab e => hab ?_) hn
 have h1 := column_at h (hl a ha)
 rw [e, column_at h (hl b hb)] at h1
 exact (Option.some.inj h1).symm
def bareK (k : Ky) : Ky := { uniq := true, prim := k.prim }
theorem setKeys_at (nm : T) (cs : Cols) (ch : List E) (h : (cs.map (·.1)).Nodup) : ∀ (b a : List Ky), (∀ k ∈ b, k.name = [] ∧ k.uniq = true ∧ (∀ c ∈ k.cols, c < cs.length) ∧ ∀ c ∈ k.cols, k.prim = true → (cs.getD c ([], 0, false)).2.2 = true) →
  setKeys { name := nm, cols := cs, keys := a ++ b.map bareK, checks := ch } a.length (b.map fun k => colNames cs k.cols) = .ok { name := nm, cols := cs, keys := a ++ b, checks := ch }
 | [], a, _ => by simp [setKeys]
 | k :: b, a, hb => by
  obtain ⟨h1, h2, h3, h4⟩ := hb k (by simp)
  have ih := setKeys_at nm cs ch h b (a ++ [k]) (fun k' hk' => hb k' (by simp [hk']))
  simp only [List.map_cons, setKeys]
  rw [places_at h h3]
  have e : (a ++ bareK k :: b.map bareK).getD a.length {} = bareK k := by simp
  dsimp only
  rw [e]
  have e2 : (a ++ bareK k :: b.map bareK).set a.length { bareK k with cols := k.cols } = (a ++ [k]) ++ b.map bareK := by
   rw [List.set_append_right _ _ (by omega)]
   simp only [Nat.sub_self, List.set_cons_zero, List.append_assoc, List.cons_append, List.nil_append]
   congr 2
   obtain ⟨n, c, u, p⟩ := k
   dsimp only at h1 h2
   subst h1 h2
   rfl
  rw [e2, show (bareK k).prim = k.prim from rfl, mark_same h4]
  simpa using ih
theorem names_snoc (pre : Sch) (t : Tb) : names (pre ++ [t]) = names pre ++ namesT t := by simp [names]
theorem tabWF_out {t : Tb} (h : tabWF t = true) : t.name ≠ [] ∧ 1 ≤ t.cols.length ∧ t.cols.length ≤ 8 ∧ t.keys.length ≤ 8 ∧ (t.cols.map (·.1)).Nodup ∧ (∀ k ∈ t.keys, keyOk t k = true) ∧ (t.keys.filter (·.prim)).length ≤ 1 ∧
  t.keys = (t.keys.filter fun k => k.name == []) ++ (t.keys.filter fun k => k.name != []) := by
 simpa [tabWF, and_assoc] using h
theorem keyOk_out {t : Tb} {k : Ky} (h : keyOk t k = true) : 1 ≤ k.cols.length ∧ k.cols.length ≤ 3 ∧ (∀ c ∈ k.cols, c < t.cols.length) ∧ (∀ c ∈ k.cols, k.prim = true → (t.cols.getD c ([], 0, false)).2.2 = true) ∧ k.cols.Nodup ∧ (k.name = [] → k.uniq = true) ∧ (k.name ≠ [] → k.prim = false) := by
 simp only [keyOk, Bool.and_eq_true, decide_eq_true_eq, List.all_eq_true, Bool.or_eq_true, Bool.not_eq_true'] at h
 obtain ⟨⟨⟨⟨h1, h2⟩, h3⟩, h4⟩, h5⟩ := h
 refine ⟨h1, h2, fun c hc => (h3 c hc).1, fun c hc hp => ?_, ?_, fun e => ?_, fun e => ?_⟩
 ·rcases (h3 c hc).2 with h | h
  ·rw [hp] at h; cases h
  ·exact h
 ·refine List.pairwise_iff_getElem.2 fun i j hi hj hij e => ?_
  rw [Bool.eq_false_iff] at h4
  apply h4
  simp only [twice, List.any_eq_true, List.mem_range]
  refine ⟨j, hj, ?_⟩
  rw [List.getElem?_eq_getElem hj]
  simp only [List.contains_iff_mem]
  rw [← e]
  exact List.mem_take_iff_getElem.2 ⟨i, by omega, rfl⟩
 ·rw [e] at h5; simpa using h5
 ·rw [if_neg (by simpa using e)] at h5; simpa using h5
theorem any_no {α : Type} {p : α → Bool} {l : List α} (h : ∀ x ∈ l, p x = false) : l.any p = false := by
 rw [Bool.eq_false_iff]
 intro e
 obtain ⟨x, hx, hp⟩ := List.any_eq_true.1 e
 rw [h x hx] at hp
 cases hp
theorem create_step {pre : Sch} {t : Tb} (ht : tabWF t = true) (hlen : pre.length < 8) (hnew : t.name ∉ names pre) : applied pre (createOf t) = .ok (pre ++ [{ t with keys := t.keys.filter fun k => k.name == [] }]) := by
 obtain ⟨h1, h2, h3, h4, h5, h6, h7, -⟩ := tabWF_out ht
 have hu : ∀ k ∈ t.keys.filter (fun k => k.name == []), k ∈ t.keys ∧ k.name = [] := fun k hk => by simpa using hk
 have e1 : hasN pre t.name = false := Bool.eq_false_iff.2 fun e => hnew ((has_names pre _ h1).1 e)
 have e2 : ((t.keys.filter fun k => k.name == []).map fun k => colNames t.cols k.cols).any (fun l => decide (3 < l.length)) = false := any_no fun l hl => by
  obtain ⟨k, hk, rfl⟩ := List.mem_map.1 hl
  have := (keyOk_out (h6 k (hu k hk).1)).2.1
  simp [colNames]; omega
 have e3 : ((t.keys.filter fun k => k.name == []).map fun k => colNames t.cols k.cols).any (fun l => twice l) = false := any_no fun l hl => by
  obtain ⟨k, hk, rfl⟩ := List.mem_map.1 hl
  obtain ⟨-, -, a, -, b, -⟩ := keyOk_out (h6 k (hu k hk).1)
  exact twice_no (names_nodup h5 a b)
 have hf := List.length_filter_le (fun k : Ky => k.name == []) t.keys
 have e4 : (((t.keys.filter fun k => k.name == []).map (·.prim)).filter id).length ≤ 1 := by
  rw [List.filter_map, List.length_map]
  refine Nat.le_trans ?_ h7
  rw [show (id ∘ fun k : Ky => k.prim) = (fun k : Ky => k.prim) from rfl]
  exact (List.Sublist.filter _ List.filter_sublist).length_le
 have hs := setKeys_at t.name t.cols t.checks h5 (t.keys.filter fun k => k.name == []) [] (fun k hk => by
  obtain ⟨-, -, a, b, -, c, -⟩ := keyOk_out (h6 k (hu k hk).1)
  exact ⟨(hu k hk).2, c (hu k hk).2, a, b⟩)
 have ho : ofTb (createOf t).tb = { name := t.name, cols := t.cols, keys := (t.keys.filter fun k => k.name == []).map bareK, checks := t.checks } := by
  simp only [ofTb, createOf, List.map_map]
  rfl
 unfold applied
 rw [if_pos (show (createOf t).kind = 1 from rfl)]
 unfold creates
 rw [ho]
 dsimp only
 rw [e1]
 simp only [Bool.false_eq_true, if_false]
 rw [show (createOf t).keyCols = (t.keys.filter fun k => k.name == []).map fun k => colNames t.cols k.cols from rfl, e2, e3, twice_no h5, decide_eq_false (show ¬ 8 ≤ pre.length by omega), decide_eq_false (show ¬ t.cols.length < 1 by omega), decide_eq_false (show ¬ 8 < t.cols.length by omega), decide_eq_false (show ¬ 8 < ((t.keys.filter fun k => k.name == []).map bareK).length by rw [List.length_map]; omega),
  show (createOf t).tb.keys = (t.keys.filter fun k => k.name == []).map (·.prim) from rfl, decide_eq_false (show ¬ 1 < (((t.keys.filter fun k => k.name == []).map (·.prim)).filter id).length by omega)]
 simp only [Bool.or_false, Bool.false_eq_true, if_false]
 simp only [List.length_nil, List.nil_append] at hs
 rw [hs]
theorem find_last {pre : Sch} {t : Tb} (h : ∀ u ∈ pre, u.name ≠ t.name) : find (pre ++ [t]) t.name = some pre.length := by
 unfold find
 rw [List.findIdx?_eq_some_iff_getElem]
 refine ⟨by simp, by simp, fun j hj => ?_⟩
 rw [List.getElem_append_left hj]
 simpa using h _ (List.getElem_mem hj)
theorem index_step {pre : Sch} {t : Tb} {ks : List Ky} {k : Ky} (h5 : (t.cols.map (·.1)).Nodup) (hk : keyOk t k = true) (h1 : ∀ u ∈ pre, u.name ≠ t.name) (h2 : k.name ≠ []) (h3 : k.name ∉ names (pre ++ [{ t with keys := ks }])) (h4 : ks.length < 8) :
  applied (pre ++ [{ t with keys := ks }]) (indexOf t k) = .ok (pre ++ [{ t with keys := ks ++ [k] }]) := by
 obtain ⟨a1, a2, a3, a4, a5, a6, a7⟩ := keyOk_out hk
 have e1 : find (pre ++ [{ t with keys := ks }]) (indexOf t k).on = some pre.length := find_last (t := { t with keys := ks }) h1
 have e2 : hasN (pre ++ [{ t with keys := ks }]) (indexOf t k).name = false := Bool.eq_false_iff.2 fun e => h3 ((has_names _ _ h2).1 e)
 have e3 : (pre ++ [{ t with keys := ks }]).getD pre.length {} = { t with keys := ks } := by simp
 unfold applied
 rw [if_neg (show ¬ (indexOf t k).kind = 1 by show ¬ (3 : Int) = 1; decide), if_pos (show (indexOf t k).kind = 3 from rfl)]
 unfold indexes
 rw [e1]
 dsimp only
 rw [e3, e2]
 dsimp only
 rw [show (indexOf t k).cols = colNames t.cols k.cols from rfl, places_at h5 a3]
 rw [if_neg (by simp), if_neg (by simp [colNames]; omega)]
 dsimp only
 rw [twice_no a5, if_neg (by simp), List.set_append_right _ _ (by omega)]
 simp only [Nat.sub_self, List.set_cons_zero]
 obtain ⟨n, c, u, p⟩ := k
 dsimp only at h2 a7
 rw [a7 h2]
 rfl
theorem run_keys {pre : Sch} {t : Tb} (h5 : (t.cols.map (·.1)).Nodup) (h1 : ∀ u ∈ pre, u.name ≠ t.name) : ∀ (l ks : List Ky), (∀ k ∈ l, keyOk t k = true ∧ k.name ≠ []) → (names (pre ++ [{ t with keys := ks ++ l }])).Nodup → (ks ++ l).length ≤ 8 →
  run (pre ++ [{ t with keys := ks }]) (l.map (indexOf t)) = .ok (pre ++ [{ t with keys := ks ++ l }])
 | [], ks, _, _, _ => by simp [run]
 | k :: l, ks, hl, hn, h8 => by
  have hkn := (hl k (by simp)).2
  have e : ks ++ k :: l = (ks ++ [k]) ++ l := by simp
  have h3 : k.name ∉ names (pre ++ [{ t with keys := ks }]) := fun hm => by
   rw [names_snoc] at hn hm
   have e2 : namesT { t with keys := ks ++ k :: l } = namesT { t with keys := ks } ++ k.name :: (l.filter fun k => k.name != []).map (·.name) := by
    simp [namesT, List.filter_cons, hkn]
   rw [e2, ← List.append_assoc] at hn
   exact (List.nodup_append.1 hn).2.2 _ hm _ (by simp) rfl
  simp only [List.map_cons, run]
  rw [index_step h5 (hl k (by simp)).1 h1 hkn h3 (by simp at h8; omega)]
  rw [e] at hn h8 ⊢
  exact run_keys h5 h1 l (ks ++ [k]) (fun k' hk' => hl k' (by simp [hk'])) hn h8
theorem run_defs : ∀ (s pre : Sch), (∀ t ∈ s, tabWF t = true) → (names (pre ++ s)).Nodup → (pre ++ s).length ≤ 8 → run pre (defs s) = .ok (pre ++ s)
 | [], pre, _, _, _ => by simp [defs, run]
 | t :: s, pre, hs, hn, hl => by
  have ht := hs t (by simp)
  obtain ⟨h1, h2, h3, h4, h5, h6, h7, h8⟩ := tabWF_out ht
  have hn1 : (names (pre ++ [t])).Nodup := by
   rw [show pre ++ t :: s = (pre ++ [t]) ++ s by simp, names, List.flatMap_append] at hn
   exact (List.nodup_append.1 hn).1
  have hnew : t.name ∉ names pre := fun hm => by
   rw [names_snoc] at hn1
   exact (List.nodup_append.1 hn1).2.2 _ hm _ (show t.name ∈ namesT t by simp [namesT]) rfl
  have hd : ∀ u ∈ pre, u.name ≠ t.name := fun u hu e => hnew (by
   rw [← e]
   exact List.mem_flatMap.2 ⟨u, hu, by simp [namesT]⟩)
  have hk := run_keys (pre := pre) h5 hd (t.keys.filter fun k => k.name != []) (t.keys.filter fun k => k.name == []) (fun k hk => by
   obtain ⟨a, b⟩ := List.mem_filter.1 hk
   exact ⟨h6 k a, by simpa using b⟩) (by rw [← h8]; exact hn1) (by rw [← h8]; exact h4)
  rw [← h8] at hk
  show run pre (defsT t ++ defs s) = _
  rw [run_append]
  have : run pre (defsT t) = .ok (pre ++ [t]) := by
   show (match applied pre (createOf t) with | .error e => .error e | .ok s => run s _ : Except Int Sch) = _
   rw [create_step ht (by simp at hl; omega) hnew]
   exact hk
  rw [this]
  dsimp only
  have ih := run_defs s (pre ++ [t]) (fun u hu => hs u (by simp [hu])) (by simpa using hn) (by simpa using hl)
  rw [ih]
  simp
theorem rebuild {s : Sch} (h : wf s = true) : run [] (defs s) = .ok s := by
 simp only [wf, Bool.and_eq_true, decide_eq_true_eq, List.all_eq_true] at h
 exact run_defs s [] h.1.2 (by simpa using h.2) (by simpa using h.1.1)
end P13
namespace Go.Proofs.YtlpcdpkgnfdpeaaGreatDoor
open Go.RowKit
def intR (n : Nat) (u : List Value) : Prop := u = [.int .i64 n]
def kyR (S : Nat → Prop) (w : World) (k : P13.Ky) (u : List Value) : Prop := ∃ v, u = [bs k.name, v, .bool k.uniq, .bool k.prim] ∧ SlcAt S w 1 intR k.cols v
def tblR (S : Nat → Prop) (w : World) (t : P13.Tb) (u : List Value) : Prop :=
 ∃ tc tk tq, u = [bs t.name, tc, tk, tq] ∧ SlcAt S w 3 colR t.cols tc ∧ SlcAt S w 4 (kyR S w) t.keys tk ∧ SlcAt S w 10 (exprR S w) t.checks tq
def SchAt (S : Nat → Prop) (w : World) (s : P13.Sch) (v : Value) : Prop := SlcAt S w 4 (tblR S w) s v
theorem stab_ky : Stab kyR := fun _ _ _ _ _ _ ⟨v, h1, h2⟩ hb hS => ⟨v, h1, h2.keep hb hS (fun _ _ h => h)⟩
theorem stab_tbl : Stab tblR := fun _ _ _ _ _ _ ⟨tc, tk, tq, h1, h2, h3, h4⟩ hb hS =>
 ⟨tc, tk, tq, h1, h2.keep hb hS (fun _ _ h => h), h3.keep hb hS (fun a u h => stab_ky _ _ _ _ a u h hb hS), h4.keep hb hS (fun _ _ h => ExprAt.keep hb hS h)⟩
theorem SchAt.keep {S S' : Nat → Prop} {w w' : World} {s : P13.Sch} {v : Value} (h : SchAt S w s v) (hb : ∀ b, S b → b < w.heap.size → w'.heap[b]? = w.heap[b]?) (hS : ∀ b, S b → b < w.heap.size → S' b) : SchAt S' w' s v :=
 SlcAt.keep h hb hS (fun a u h => stab_tbl _ _ _ _ a u h hb hS)
theorem SchAt.ext {S : Nat → Prop} {w w' : World} {s : P13.Sch} {v : Value} (h : SchAt S w s v) (hx : Xk.Ext w w') : SchAt S w' s v := h.keep (fun b _ hl => hx.block b hl) (fun b hb _ => hb)
theorem tblR.ext {S : Nat → Prop} {w w' : World} {t : P13.Tb} {u : List Value} (h : tblR S w t u) (hx : Xk.Ext w w') : tblR S w' t u := stab_tbl _ _ _ _ _ _ h (fun b _ hl => hx.block b hl) (fun b hb _ => hb)
theorem StmtAt.tbl {S : Nat → Prop} {w : World} {x : P12.St} {l : List Value} {tc tk tq kc cols rows sets : Value} {wh : List Value} {items frm : Value} {jn : List Value} {grp ord : Value} (h : StmtAt S w x l tc tk tq kc cols rows sets wh items frm jn grp ord) : tblR S w (P13.ofTb x.tb) [bs x.tb.name, tc, tk, tq] := by
 refine ⟨tc, tk, tq, rfl, h.tc, ?_, h.tq⟩
 rcases h.tk with ⟨e1, e2⟩ | ⟨g, c, us, e, hS, h1, h2, h3, h4, h5, h6, h7⟩
 ·exact .inl ⟨by simp [P13.ofTb, e1], e2⟩
 ·refine .inr ⟨g, c, us, by simpa [P13.ofTb] using e, hS, by simpa [P13.ofTb] using h1, by simpa [P13.ofTb] using h2, by simpa [P13.ofTb] using h3, h4, h5, h6, fun j x u hx hu => ?_⟩
  simp only [P13.ofTb, List.getElem?_map, Option.map_eq_some_iff] at hx
  obtain ⟨p, hp, rfl⟩ := hx
  have := h7 j p u hp hu
  exact ⟨nilS, this, SlcAt.nil _ _ _ _⟩
def idxI : Option Nat → Int
 | some i => i
 | none => -1
theorem idx_hit {α : Type} {P : α → Bool} {l : List α} {q : Nat} (h : q < l.length) (hp : P l[q] = true) (hn : ∀ j (hj : j < l.length), j < q → P l[j] = false) : l.findIdx? P = some q :=
 List.findIdx?_eq_some_iff_getElem.2 ⟨h, hp, fun j hj => by rw [hn j (by omega) hj]; decide⟩
theorem idx_no {α : Type} {P : α → Bool} {l : List α} (hn : ∀ j (hj : j < l.length), P l[j] = false) : l.findIdx? P = none :=
 List.findIdx?_eq_none_iff.2 fun x hx => by
  obtain ⟨j, hj, rfl⟩ := List.getElem_of_mem hx
  exact hn j hj
def IdxFn (F FI : FuncId) (sz : Nat) : Prop := ∀ {α : Type} (P : α → Bool) {S : Nat → Prop} {R : α → List Value → Prop} {l : List α} {v : Value} (bx : Nat) (w : World), Ent FI → SlcAt S w sz R l v → l.length ≤ 1000000 →
 (∀ x u, x ∈ l → R x u → u.length = sz → ∀ W, Xk.Ext w W → Calls Tryz.prog FI #[.agg u.toArray, .pointer (some ⟨bx, 0, none⟩)] W fun e w' => e = .returned (.bool (P x)) ∧ Xk.Ext W w') →
 Calls Tryz.prog F #[v, .func (.func FI) #[] #[.pointer (some ⟨bx, 0, none⟩)]] w fun e w' => e = .returned (.int .i64 (idxI (l.findIdx? P))) ∧ Xk.Ext w w'
theorem idx_any (FI : FuncId) : IdxFn 140 FI 4 ∧ IdxFn 197 FI 3 ∧ IdxFn 67 FI 4 := by
 refine ⟨?a, ?b, ?c⟩
 case' a | b | c =>
  intro α P S R l v bx w hent h hl hF
  have hcf := hent.run
  have hci := hent.no
  have HF := Lib.hid hF
  have HS := Lib.hid h
  obtain ⟨p, c, rfl⟩ := h.len
  clear hF h hent
 case' a => go_enter Tryz.func140, Tryz.ntmps140
 case' b => go_enter Tryz.func197, Tryz.ntmps197
 case' c => go_enter Tryz.func67, Tryz.ntmps67
 all_goals
  go_wp2_with fail
  go_loopw [8] (fun x wr => ∃ q : Nat, q ≤ l.length ∧ x = .int .i64 q ∧ Xk.Ext w wr ∧ Hid (∀ j (hj : j < l.length), j < q → P l[j] = false)) (fun x _ => l.length - (intOf x).toNat)
  case atStart => exact ⟨0, by omega, rfl, Below.refl _ _, Lib.hid fun j hj h => by omega⟩
  case round =>
   obtain ⟨q, hq, rfl, hx, HN⟩ := hrel
   have HX := Lib.hid hx
   clear hx
   by_cases hlt : q < l.length
   ·obtain ⟨g, rfl⟩ := HS.out.root (by omega)
    obtain ⟨-, -, he⟩ := HS.out.elem
    obtain ⟨u, hu, hlu, hr⟩ := he q _ (List.getElem?_eq_getElem hlt)
    have hmem := List.getElem_mem hlt
    have hg := World.block_lt_of_cell? _ _ (hr 0 u[0] (List.getElem?_eq_getElem (by omega)))
    have HRJ := Lib.hid (range_same hr (HX.out.block g hg))
    have HC := Lib.hid (HF.out _ u hmem hu hlu wr HX.out)
    have hlb : (q : Int) < (l.length : Int) := by omega
    have hwg : g < wr.heap.size := Nat.lt_of_lt_of_le hg HX.out.size
    clear hr hu he
    go_wp2_with (first | (refine wpList_load_mid rfl 33 _ rfl g (q * 4) rfl _ _ HRJ.out Tryz.underlying33 rfl (by simp only [List.size_toArray, hlu]; kernel_rfl) ?_) | (refine wpList_load_mid rfl 51 _ rfl g (q * 3) rfl _ _ HRJ.out Tryz.underlying51 rfl (by simp only [List.size_toArray, hlu]; kernel_rfl) ?_) | (refine wpList_load_mid rfl 100 _ rfl g (q * 4) rfl _ _ HRJ.out Tryz.underlying100 rfl (by simp only [List.size_toArray, hlu]; kernel_rfl) ?_))
    refine HC.out.mono ?_
    rintro e w' ⟨rfl, hx'⟩
    cases hp : P l[q]
    ·have HP := Lib.hid hp
     clear hp
     go_wp2_with fail
     go_roundw
     case rel => exact ⟨q + 1, by omega, by go_num, Xk.Ext.trans HX.out hx', Lib.hid fun j hj h => by
      by_cases e : j = q
      ·subst e; exact HP.out
      ·exact HN.out j hj (by omega)⟩
     case measure => simp [intOf]; omega
    ·have HI := Lib.hid (idx_hit hlt hp HN.out)
     clear hp
     go_wp2_with fail
     go_ret
     exact ⟨by rw [HI.out]; rfl, Xk.Ext.trans HX.out hx'⟩
   ·have hlb : ¬ (q : Int) < (l.length : Int) := by omega
    have HI := Lib.hid (idx_no (fun j hj => HN.out j hj (by omega)))
    go_wp2_with fail
    go_ret
    exact ⟨by rw [HI.out]; rfl, HX.out⟩
theorem ent_find1 : Ent 141 := ⟨fun _ _ => by go_simp, by decide⟩
theorem ent_column1 : Ent 205 := ⟨fun _ _ => by go_simp, by decide⟩
theorem find1_any (m n : P12.T) (tc tk tq : Value) (bx : Nat) (W : World) (hb : W.cell? ⟨bx, 0, none⟩ = some (bs n)) : Calls Tryz.prog 141 #[.agg #[bs m, tc, tk, tq], .pointer (some ⟨bx, 0, none⟩)] W fun e w' => e = .returned (.bool (m == n)) ∧ Xk.Ext W w' := by
 have lb := World.block_lt_of_cell? _ _ hb
 go_enter Tryz.func141, Tryz.ntmps141
 go_wp2_with fail
 go_ret
 exact ⟨by simp, Xk.xt⟩
theorem column1_any (m n : P12.T) (ty : Int) (nn : Bool) (bx : Nat) (W : World) (hb : W.cell? ⟨bx, 0, none⟩ = some (bs n)) : Calls Tryz.prog 205 #[.agg #[bs m, .int .i64 ty, .bool nn], .pointer (some ⟨bx, 0, none⟩)] W fun e w' => e = .returned (.bool (m == n)) ∧ Xk.Ext W w' := by
 have lb := World.block_lt_of_cell? _ _ hb
 go_enter Tryz.func205, Tryz.ntmps205
 go_wp2_with fail
 go_ret
 exact ⟨by simp, Xk.xt⟩
def placeV (o : Option Nat) : Value := .tuple #[.int .i64 (o.getD 0 : Nat), .bool o.isSome]
theorem find_any {S : Nat → Prop} {s : P13.Sch} {v : Value} (n : P12.T) (w : World) (h : SchAt S w s v) (hl : s.length ≤ 1000) : Calls Tryz.prog 64 #[.agg #[v], bs n] w fun e w' => e = .returned (placeV (P13.find s n)) ∧ Xk.Ext w w' := by
 have hmf := mkfun
 have hx2 : Xk.Ext w ((w.alloc (.cells #[v] 25)).alloc (.cells #[bs n] 9)) := Xk.xt
 have hc : ((w.alloc (.cells #[v] 25)).alloc (.cells #[bs n] 9)).cell? ⟨w.heap.size + 1, 0, none⟩ = some (bs n) := cell_at _ _ _ (by rw [World.size_alloc])
 have HI := Lib.hid ((idx_any 141).1 (fun t : P13.Tb => t.name == n) (w.heap.size + 1) _ ent_find1 (h.ext hx2) (by omega) (fun t u _ hu _ W hx => by
  obtain ⟨tc, tk, tq, rfl, -⟩ := hu
  exact find1_any t.name n tc tk tq _ W (Xk.ext_cell hx hc)))
 have HX := Lib.hid hx2
 clear h hx2 hc
 go_enter Tryz.func64, Tryz.ntmps64
 go_wp2_with fail
 refine HI.out.mono ?_
 rintro e w' ⟨rfl, hx⟩
 have HX' := Lib.hid (Xk.Ext.trans HX.out hx)
 clear hx
 cases hf : s.findIdx? fun t => t.name == n
 ·have HF := Lib.hid (show P13.find s n = _ from hf)
  clear hf
  go_wp2_with fail
  go_ret2
  exact ⟨by rw [HF.out]; rfl, HX'.out⟩
 ·rename_i i
  have h1 : ¬ (i : Int) < 0 := by omega
  have h0 : (0 : Int) ≤ i := by omega
  have HF := Lib.hid (show P13.find s n = _ from hf)
  clear hf
  go_wp2_with fail
  go_ret2
  exact ⟨by
   rw [HF.out]
   show Ending.returned (.tuple #[.int .i64 (max (i : Int) 0), .bool (decide ((0 : Int) ≤ i))]) = _
   rw [Int.max_eq_left h0, decide_eq_true h0]
   rfl, HX'.out⟩
theorem column_at_any {S : Nat → Prop} {cs : P13.Cols} {v k q : Value} (m n : P12.T) (w : World) (h : SlcAt S w 3 colR cs v) (hl : cs.length ≤ 1000) : Calls Tryz.prog 139 #[.agg #[bs m, v, k, q], bs n] w fun e w' => e = .returned (placeV (P13.column cs n)) ∧ Xk.Ext w w' := by
 have hmf := mkfun
 have hx2 : Xk.Ext w ((w.alloc (.cells #[bs m, v, k, q] 33)).alloc (.cells #[bs n] 9)) := Xk.xt
 have hc : ((w.alloc (.cells #[bs m, v, k, q] 33)).alloc (.cells #[bs n] 9)).cell? ⟨w.heap.size + 1, 0, none⟩ = some (bs n) := cell_at _ _ _ (by rw [World.size_alloc])
 have HI := Lib.hid ((idx_any 205).2.1 (fun c : P12.T × Int × Bool => c.1 == n) (w.heap.size + 1) _ ent_column1 (h.keep (fun b _ hl => hx2.block b hl) (fun _ hb _ => hb) (fun _ _ h => h)) (by omega) (fun c u _ hu _ W hx => by
  obtain ⟨a, b, d⟩ := c
  obtain rfl : u = _ := hu
  exact column1_any a n b d _ W (Xk.ext_cell hx hc)))
 have HX := Lib.hid hx2
 clear h hx2 hc
 go_enter Tryz.func139, Tryz.ntmps139
 go_wp2_with fail
 refine HI.out.mono ?_
 rintro e w' ⟨rfl, hx⟩
 have HX' := Lib.hid (Xk.Ext.trans HX.out hx)
 clear hx
 cases hf : cs.findIdx? fun c => c.1 == n
 ·have HF := Lib.hid (show P13.column cs n = _ from hf)
  clear hf
  go_wp2_with fail
  go_ret2
  exact ⟨by rw [HF.out]; rfl, HX'.out⟩
 ·rename_i i
  have h1 : ¬ (i : Int) < 0 := by omega
  have h0 : (0 : Int) ≤ i := by omega
  have HF := Lib.hid (show P13.column cs n = _ from hf)
  clear hf
  go_wp2_with fail
  go_ret2
  exact ⟨by
   rw [HF.out]
   show Ending.returned (.tuple #[.int .i64 (max (i : Int) 0), .bool (decide ((0 : Int) ≤ i))]) = _
   rw [Int.max_eq_left h0, decide_eq_true h0]
   rfl, HX'.out⟩
def ContFn (F FI : FuncId) (sz : Nat) : Prop := ∀ {α : Type} (P : α → Bool) {S : Nat → Prop} {R : α → List Value → Prop} {l : List α} {v : Value} (bx : Nat) (w : World), Ent FI → SlcAt S w sz R l v → l.length ≤ 1000000 →
 (∀ x u, x ∈ l → R x u → u.length = sz → ∀ W, Xk.Ext w W → Calls Tryz.prog FI #[.agg u.toArray, .pointer (some ⟨bx, 0, none⟩)] W fun e w' => e = .returned (.bool (P x)) ∧ Xk.Ext W w') →
 Calls Tryz.prog F #[v, .func (.func FI) #[] #[.pointer (some ⟨bx, 0, none⟩)]] w fun e w' => e = .returned (.bool (l.any P)) ∧ Xk.Ext w w'
theorem cont_any (FI : FuncId) : ContFn 135 FI 4 ∧ ContFn 137 FI 4 := by
 refine ⟨?a, ?b⟩
 case' a | b =>
  intro α P S R l v bx w hent h hl hF
  obtain ⟨p, c, e⟩ := h.len
 case' a => have HI := Lib.hid ((idx_any FI).1 P bx w hent h hl hF)
 case' b => have HI := Lib.hid ((idx_any FI).2.2 P bx w hent h hl hF)
 case' a | b =>
  subst e
  have ha : (l.findIdx? P).isSome = l.any P := List.findIdx?_isSome
  have HA := Lib.hid ha
  clear h hF ha
 case' a => go_enter Tryz.func135, Tryz.ntmps135
 case' b => go_enter Tryz.func137, Tryz.ntmps137
 all_goals
  go_wp2_with fail
  refine HI.out.mono ?_
  rintro e w' ⟨rfl, hx⟩
  cases hf : l.findIdx? P
  ·have HF := Lib.hid hf
   clear hf
   go_wp2_with fail
   go_ret
   exact ⟨by rw [← HA.out, HF.out]; rfl, hx⟩
  ·rename_i i
   have HF := Lib.hid hf
   have h0 : (0 : Int) ≤ i := by omega
   clear hf
   go_wp2_with fail
   go_ret
   exact ⟨by
    rw [← HA.out, HF.out]
    show Ending.returned (.bool (decide ((0 : Int) ≤ i))) = _
    rw [decide_eq_true h0]
    rfl, hx⟩
theorem ent_has1 : Ent 136 := ⟨fun _ _ => by go_simp, by decide⟩
theorem ent_has2 : Ent 138 := ⟨fun _ _ => by go_simp, by decide⟩
theorem has2_any (m n : P12.T) (v : Value) (u p : Bool) (bx : Nat) (W : World) (hb : W.cell? ⟨bx, 0, none⟩ = some (bs n)) : Calls Tryz.prog 138 #[.agg #[bs m, v, .bool u, .bool p], .pointer (some ⟨bx, 0, none⟩)] W fun e w' => e = .returned (.bool (m == n)) ∧ Xk.Ext W w' := by
 have lb := World.block_lt_of_cell? _ _ hb
 go_enter Tryz.func138, Tryz.ntmps138
 go_wp2_with fail
 go_ret
 exact ⟨by simp, Xk.xt⟩
theorem has1_any {S : Nat → Prop} {t : P13.Tb} {m n : P12.T} {tc tk tq : Value} (bx : Nat) (W : World) (h : SlcAt S W 4 (kyR S W) t.keys tk) (hl : t.keys.length ≤ 1000) (hb : W.cell? ⟨bx, 0, none⟩ = some (bs n)) :
  Calls Tryz.prog 136 #[.agg #[bs m, tc, tk, tq], .pointer (some ⟨bx, 0, none⟩)] W fun e w' => e = .returned (.bool (t.keys.any fun k => k.name == n)) ∧ Xk.Ext W w' := by
 have hmf := mkfun
 have lb := World.block_lt_of_cell? _ _ hb
 have hx1 : Xk.Ext W (W.alloc (.cells #[bs m, tc, tk, tq] 33)) := Xk.xt
 have HI := Lib.hid ((cont_any 138).2 (fun k : P13.Ky => k.name == n) bx _ ent_has2 (h.keep (fun b _ hl => hx1.block b hl) (fun _ hb _ => hb) (fun _ _ h => h)) (by omega) (fun k u _ hu _ W' hx => by
  obtain ⟨v, rfl, -⟩ := hu
  exact has2_any k.name n v _ _ bx W' (Xk.ext_cell (Xk.Ext.trans hx1 hx) hb)))
 have HX := Lib.hid hx1
 clear h hx1
 go_enter Tryz.func136, Tryz.ntmps136
 go_wp2_with fail
 refine HI.out.mono ?_
 rintro e w' ⟨rfl, hx⟩
 go_wp2_with fail
 go_ret
 exact ⟨rfl, Xk.Ext.trans HX.out hx⟩
theorem has_any {S : Nat → Prop} {s : P13.Sch} {v : Value} (n : P12.T) (w : World) (h : SchAt S w s v) (hl : s.length ≤ 1000) (hk : ∀ t ∈ s, t.keys.length ≤ 1000) : Calls Tryz.prog 62 #[.agg #[v], bs n] w fun e w' => e = .returned (.bool (P13.hasN s n)) ∧ Xk.Ext w w' := by
 have hmf := mkfun
 have hx2 : Xk.Ext w ((w.alloc (.cells #[v] 25)).alloc (.cells #[bs n] 9)) := Xk.xt
 have hc : ((w.alloc (.cells #[v] 25)).alloc (.cells #[bs n] 9)).cell? ⟨w.heap.size + 1, 0, none⟩ = some (bs n) := cell_at _ _ _ (by rw [World.size_alloc])
 have hv : ((w.alloc (.cells #[v] 25)).alloc (.cells #[bs n] 9)).cell? ⟨w.heap.size, 0, none⟩ = some v := Xk.ext_cell (show Xk.Ext (w.alloc (.cells #[v] 25)) _ from Xk.xt) (cell_at _ _ _ rfl)
 have HF := Lib.hid fun W (hx : Xk.Ext w W) => find_any n W (h.ext hx) hl
 have HI := Lib.hid fun W (hx : Xk.Ext ((w.alloc (.cells #[v] 25)).alloc (.cells #[bs n] 9)) W) => (cont_any 136).1 (fun t : P13.Tb => t.keys.any fun k => k.name == n) (w.heap.size + 1) W ent_has1 (h.ext (Xk.Ext.trans hx2 hx)) (by omega) (fun t u ht hu _ W' hx' => by
  obtain ⟨tc, tk, tq, rfl, -, h2, -⟩ := hu
  exact has1_any (w.heap.size + 1) W' (h2.keep (fun b _ hl => hx'.block b hl) (fun _ hb _ => hb) (fun a u h => stab_ky _ _ _ _ a u h (fun b _ hl => hx'.block b hl) (fun _ hb _ => hb))) (hk t ht) (Xk.ext_cell (Xk.Ext.trans hx hx') hc))
 have HX := Lib.hid hx2
 have HC := Lib.hid hc
 have HV := Lib.hid hv
 clear h hx2 hc hv hk
 go_enter Tryz.func62, Tryz.ntmps62
 go_wp2_with fail
 refine (HF.out _ HX.out).mono ?_
 rintro e w1 ⟨rfl, hx1⟩
 have c1 := Xk.ext_cell hx1 HC.out
 have v1 := Xk.ext_cell hx1 HV.out
 have l1 := World.block_lt_of_cell? _ _ c1
 have HX1 := Lib.hid hx1
 clear hx1
 cases hf : P13.find s n
 ·have HN := Lib.hid hf
  clear hf
  rw [show placeV none = .tuple #[.int .i64 0, .bool false] from rfl]
  go_wp2_with fail
  refine (HI.out _ HX1.out).mono ?_
  rintro e w2 ⟨rfl, hx2⟩
  go_wp2_with fail
  go_ret
  exact ⟨by simp [P13.hasN, HN.out], Xk.Ext.trans (Xk.Ext.trans HX.out HX1.out) hx2⟩
 ·rename_i i
  have HN := Lib.hid hf
  clear hf
  rw [show placeV (some i) = .tuple #[.int .i64 i, .bool true] from rfl]
  go_wp2_with fail
  go_ret
  exact ⟨by simp [P13.hasN, HN.out], Xk.Ext.trans HX.out HX1.out⟩
end Go.Proofs.YtlpcdpkgnfdpeaaGreatDoor
namespace P13
theorem twice_hit {α : Type} [BEq α] {l : List α} {q : Nat} (h : q < l.length) (hc : (l.take q).contains l[q] = true) : twice l = true := by
 simp only [twice, List.any_eq_true, List.mem_range]
 exact ⟨q, h, by rw [List.getElem?_eq_getElem h]; exact hc⟩
theorem twice_none {α : Type} [BEq α] {l : List α} (h : ∀ q (hq : q < l.length), (l.take q).contains l[q] = false) : twice l = false := by
 rw [Bool.eq_false_iff]
 intro ht
 simp only [twice, List.any_eq_true, List.mem_range] at ht
 obtain ⟨q, hq, hc⟩ := ht
 rw [List.getElem?_eq_getElem hq] at hc
 dsimp only at hc
 rw [h q hq] at hc
 cases hc
end P13
namespace Go.Proofs.YtlpcdpkgnfdpeaaGreatDoor
open Go.RowKit
def ContAt {α : Type} [BEq α] (C : FuncId) (f : α → Value) (p : Option Addr) (c : Nat) (l : List α) (w : World) : Prop := ∀ (q : Nat) (hq : q < l.length) (W : World), Xk.Ext w W → Calls Tryz.prog C #[.slice p q c, f l[q]] W fun e w' => e = .returned (.bool ((l.take q).contains l[q])) ∧ W = w'
theorem twice_two {α : Type} [BEq α] (f : α → Value) {S : Nat → Prop} {l : List α} {p : Option Addr} {c : Nat} (w : World) (h : SlcAt S w 1 (fun x u => u = [f x]) l (.slice p l.length c)) (hl : l.length ≤ 1000) :
  (ContAt 40 f p c l w → Calls Tryz.prog 61 #[.slice p l.length c] w fun e w' => e = .returned (.bool (P13.twice l)) ∧ Xk.Ext w w') ∧
  (ContAt 142 f p c l w → Calls Tryz.prog 65 #[.slice p l.length c] w fun e w' => e = .returned (.bool (P13.twice l)) ∧ Xk.Ext w w') := by
 have HS := Lib.hid h
 have hcap : l.length ≤ c := by
  rcases h with ⟨e, -⟩ | ⟨g, c', us, e, -, -, hc, -⟩
  ·rw [e]; exact Nat.zero_le _
  ·cases e; exact hc
 clear h
 refine ⟨?a, ?b⟩
 case' a | b =>
  intro hC
  have HC := Lib.hid hC
  clear hC
 case' a => go_enter Tryz.func61, Tryz.ntmps61
 case' b => go_enter Tryz.func65, Tryz.ntmps65
 all_goals
  go_wp2_with fail
  go_loopw [7] (fun x wr => ∃ q : Nat, q ≤ l.length ∧ x = .int .i64 q ∧ Xk.Ext w wr ∧ Hid (∀ j (hj : j < l.length), j < q → (l.take j).contains l[j] = false)) (fun x _ => l.length - (intOf x).toNat)
  case atStart => exact ⟨0, by omega, rfl, Below.refl _ _, Lib.hid fun j hj h => by omega⟩
  case round =>
   obtain ⟨q, hq, rfl, hx, HN⟩ := hrel
   have HX := Lib.hid hx
   clear hx
   by_cases hlt : q < l.length
   ·obtain ⟨g, rfl⟩ := HS.out.root (by omega)
    obtain ⟨-, -, he⟩ := HS.out.elem
    obtain ⟨u, hu, hlu, hr⟩ := he q _ (List.getElem?_eq_getElem hlt)
    subst hu
    have hc := Xk.ext_cell HX.out (hr 0 _ rfl)
    rw [Nat.mul_one, Nat.add_zero] at hc
    have HCq := Lib.hid (HC.out q hlt wr HX.out)
    have hlb : (q : Int) < (l.length : Int) := by omega
    have hqc : (q : Int) ≤ (c : Int) := by omega
    have lg := World.block_lt_of_cell? _ _ hc
    clear hr he hlu
    generalize hfe : f l[q] = fv at *
    go_wp2_with fail
    refine HCq.out.mono ?_
    rintro e w' ⟨rfl, rfl⟩
    cases hp : (l.take q).contains l[q]
    ·have HP := Lib.hid hp
     clear hp
     go_wp2_with fail
     go_roundw
     case rel => exact ⟨q + 1, by omega, by go_num, HX.out, Lib.hid fun j hj h => by
      by_cases e : j = q
      ·subst e; exact HP.out
      ·exact HN.out j hj (by omega)⟩
     case measure => simp [intOf]; omega
    ·have HI := Lib.hid (P13.twice_hit hlt hp)
     clear hp
     go_wp2_with fail
     go_ret
     exact ⟨by rw [HI.out]; rfl, HX.out⟩
   ·have hlb : ¬ (q : Int) < (l.length : Int) := by omega
    have HI := Lib.hid (P13.twice_none (fun j hj => HN.out j hj (by omega)))
    go_wp2_with fail
    go_ret
    exact ⟨by rw [HI.out]; rfl, HX.out⟩
theorem slc_cell1 {α : Type} {f : α → Value} {S : Nat → Prop} {w : World} {l : List α} {g n c : Nat} (h : SlcAt S w 1 (fun x u => u = [f x]) l (.slice (some ⟨g, 0, none⟩) n c)) (j : Nat) (hj : j < l.length) : w.cell? ⟨g, j, none⟩ = some (f l[j]) := by
 obtain ⟨-, -, he⟩ := h.elem
 obtain ⟨u, hu, -, hr⟩ := he j _ (List.getElem?_eq_getElem hj)
 subst hu
 simpa using hr 0 _ rfl
theorem contS {S : Nat → Prop} {l : List P12.T} {p : Option Addr} {c : Nat} {w : World} (h : SlcAt S w 1 strR l (.slice p l.length c)) (hl : l.length ≤ 1000) : ContAt 40 bs p c l w := by
 intro q hq W hx
 obtain ⟨g, rfl⟩ := h.root (by omega)
 refine (Tryz.slices_Contains_string g 0 q c (l.map fun t => ⟨t.toArray⟩) ⟨l[q].toArray⟩ W (by simp; omega) (by omega) (fun j hj => ?_)).mono ?_
 ·have hj' : j < l.length := by simpa using hj
  rw [List.getD_eq_getElem?_getD, List.getElem?_map, List.getElem?_eq_getElem hj', Nat.zero_add]
  exact Xk.ext_cell hx (slc_cell1 (f := bs) h j hj')
 ·rintro e w' ⟨rfl, rfl⟩
  refine ⟨?_, rfl⟩
  congr 2
  rw [Bool.eq_iff_iff, Lib.containsS_iff, ← List.map_take, List.contains_iff_mem, List.mem_map]
  exact ⟨fun ⟨t, ht, e⟩ => by have := congrArg (fun s : ByteArray => s.data.toList) e; simp at this; rw [← this]; exact ht, fun h => ⟨_, h, rfl⟩⟩
theorem contI {S : Nat → Prop} {l : List Nat} {p : Option Addr} {c : Nat} {w : World} (h : SlcAt S w 1 intR l (.slice p l.length c)) (hl : l.length ≤ 1000) : ContAt 142 (fun n : Nat => .int .i64 n) p c l w := by
 intro q hq W hx
 obtain ⟨g, rfl⟩ := h.root (by omega)
 refine (Tryz.slices_Contains_int g 0 q c (l.map fun n : Nat => (n : Int)) l[q] W (by simp; omega) (by omega) (fun j hj => ?_)).mono ?_
 ·have hj' : j < l.length := by simpa using hj
  rw [List.getD_eq_getElem?_getD, List.getElem?_map, List.getElem?_eq_getElem hj', Nat.zero_add]
  exact Xk.ext_cell hx (slc_cell1 (f := fun n : Nat => .int .i64 n) h j hj')
 ·rintro e w' ⟨rfl, rfl⟩
  refine ⟨?_, rfl⟩
  congr 2
  rw [Bool.eq_iff_iff, ← List.map_take, List.contains_iff_mem, List.contains_iff_mem, List.mem_map]
  exact ⟨fun ⟨t, ht, e⟩ => (show t = l[q] by omega) ▸ ht, fun h => ⟨_, h, rfl⟩⟩
theorem twiceS_any {S : Nat → Prop} {l : List P12.T} {p : Option Addr} {c : Nat} (w : World) (h : SlcAt S w 1 strR l (.slice p l.length c)) (hl : l.length ≤ 1000) : Calls Tryz.prog 61 #[.slice p l.length c] w fun e w' => e = .returned (.bool (P13.twice l)) ∧ Xk.Ext w w' := (twice_two bs w h hl).1 (contS h hl)
theorem twiceI_any {S : Nat → Prop} {l : List Nat} {p : Option Addr} {c : Nat} (w : World) (h : SlcAt S w 1 intR l (.slice p l.length c)) (hl : l.length ≤ 1000) : Calls Tryz.prog 65 #[.slice p l.length c] w fun e w' => e = .returned (.bool (P13.twice l)) ∧ Xk.Ext w w' := (twice_two (fun n : Nat => .int .i64 n) w h hl).2 (contI h hl)
theorem Tryz.infoInt : (Tryz.prog.info? 3).map (fun i => (i.zero, i.size, i.bytes)) = some (some (.int .i64 0), 1, 8) := by kernel_rfl
theorem extA (w : World) (o : Obj) : Xk.Ext w (w.alloc o) := (Below.refl _ _).alloc (Nat.le_refl _) _
theorem own_sliceG {w : World} {B : Nat} {e : TypeId} {size n : Nat} {v : Value} {xs : List Value} (h : w.ownsRow B e size v n xs) : ∃ p c, v = .slice p n c := by
 rcases h.2 with ⟨rfl, rfl⟩ | ⟨g, cap, cur, rfl, -⟩
 ·exact ⟨_, _, rfl⟩
 ·exact ⟨_, _, rfl⟩
theorem own_slc1 {α : Type} {f : α → Value} {B : Nat} {e : TypeId} {l : List α} {v : Value} {w : World} (h : w.ownsRow B e 1 v l.length (l.map f)) (hp : 0 < l.length) : SlcAt (fun b => B ≤ b) w 1 (fun x u => u = [f x]) l v := by
 have h5 : ∀ xs : List α, (xs.map fun s => [f s]).flatten = xs.map f := fun xs => by
  induction xs with
  | nil => rfl
  | cons x xs ih => simp only [List.map_cons, List.flatten_cons, ih]; rfl
 have hg : Gath B e 1 (fun _ _ x u => u = [f x]) l v w := ⟨l.map fun x => [f x], by rw [h5]; exact h, by simp, fun u hu => by
  obtain ⟨s, -, rfl⟩ := List.mem_map.1 hu; rfl, fun j x u hx hu => by
  rw [List.getElem?_map, hx] at hu
  simpa using hu.symm⟩
 exact hg.slc (fun _ _ _ _ _ _ h _ _ => h) hp (by decide)
theorem places_any {S S2 : Nat → Prop} {cs : P13.Cols} {v k0 q0 nv : Value} (m : P12.T) (ns : List P12.T) (w : World) (h : SlcAt S w 3 colR cs v) (hl : cs.length ≤ 1000) (hn : SlcAt S2 w 1 strR ns nv) (hnl : ns.length ≤ 1000) (hpos : 0 < ns.length) :
  Calls Tryz.prog 63 #[.agg #[bs m, v, k0, q0], nv] w fun e w' => (match P13.places cs ns with
   | none => e = .returned (.tuple #[nilS, .int .i64 132])
   | some r => ∃ rv, e = .returned (.tuple #[rv, .int .i64 0]) ∧ SlcAt (fun b => w.heap.size ≤ b) w' 1 intR r rv) ∧ Xk.Ext w w' := by
 have HC := Lib.hid fun (n : P12.T) W (hx : Xk.Ext w W) => column_at_any (k := k0) (q := q0) m n W (h.keep (fun b _ hl => hx.block b hl) (fun _ hb _ => hb) (fun _ _ h => h)) hl
 obtain ⟨p, c, rfl⟩ := hn.len
 have HN := Lib.hid hn
 obtain ⟨i0, hi, hz0, hz1, hz2⟩ := infoParts Tryz.infoInt
 have Hi := Lib.hid hi
 have Hz0 := Lib.hid hz0
 have Hz1 := Lib.hid hz1
 have Hz2 := Lib.hid hz2
 clear hi hz0 hz1 hz2
 clear h hn
 generalize hP : P13.places cs ns = res
 have HP := Lib.hid hP
 have hx1 : Xk.Ext w (w.alloc (.cells #[bs m, v, k0, q0] 33)) := (Below.refl _ _).alloc (Nat.le_refl _) _
 have HX1 := Lib.hid hx1
 clear hP hx1
 go_enter Tryz.func63, Tryz.ntmps63
 go_wp2_with fail
 go_loopw [6, 13] (fun o x wr => ∃ (q : Nat) (r : List Nat), q ≤ ns.length ∧ x = .int .i64 q ∧ Xk.Ext (w.alloc (.cells #[bs m, v, k0, q0] 33)) wr ∧ wr.ownsRow (w.heap.size + 1) 3 1 o q (r.map fun n : Nat => Value.int .i64 n) ∧ Hid (r.length = q) ∧ Hid (res = (P13.places cs (ns.drop q)).map (r ++ ·))) (fun _ x _ => ns.length - (intOf x).toNat)
 case atStart => exact ⟨0, [], by omega, rfl, Below.refl _ _, World.ownsRow_nil _ _ _ _, Lib.hid rfl, Lib.hid (by rw [List.drop_zero, HP.out]; cases res <;> rfl)⟩
 case round =>
  obtain ⟨q, r, hq, rfl, hx, ho, HRL, HE⟩ := hrel
  obtain ⟨ps, cs', rfl⟩ := own_sliceG ho
  have HX := Lib.hid hx
  have HO := Lib.hid ho
  have hxw := Xk.Ext.trans HX1.out hx
  have HXW := Lib.hid hxw
  have hws := hxw.size
  by_cases hlt : q < ns.length
  ·obtain ⟨g, rfl⟩ := HN.out.root (by omega)
   have hc := Xk.ext_cell hxw (slc_cell1 (f := bs) HN.out q hlt)
   have hb := (hx.block _ (by rw [World.size_alloc]; omega)).trans (heap_new w _)
   have HCq := Lib.hid (HC.out ns[q] wr hxw)
   have HD := Lib.hid (show ns.drop q = ns[q] :: ns.drop (q + 1) from List.drop_eq_getElem_cons hlt)
   have hlb : (q : Int) < (ns.length : Int) := by omega
   have lg := World.block_lt_of_cell? _ _ hc
   clear hx ho hxw
   generalize ns[q] = nm at *
   go_wp2_with (refine lw hb Tryz.underlying33 ?_)
   refine HCq.out.mono ?_
   rintro e w2 ⟨rfl, hx2⟩
   have HX2 := Lib.hid (Xk.Ext.trans HX.out hx2)
   have HO2 := Lib.hid (own_same HO.out (fun b hb => hx2.block b (HO.out.lt b hb).2))
   have hw2 := hx2.size
   clear hx2 hb hc lg
   cases hf : P13.column cs nm
   ·rw [show placeV none = .tuple #[.int .i64 0, .bool false] from rfl]
    have hE := HE.out
    rw [HD.out, P13.places, hf] at hE
    have HR := Lib.hid (show res = none from hE)
    clear hf hE
    go_wp2_with fail
    go_ret2
    exact ⟨rfl, Xk.Ext.trans HX1.out HX2.out⟩
   ·rename_i i
    rw [show placeV (some i) = .tuple #[.int .i64 i, .bool true] from rfl]
    have hE : res = (P13.places cs (ns.drop (q + 1))).map ((r ++ [i]) ++ ·) := by
     rw [HE.out, HD.out, P13.places, hf]
     cases P13.places cs (ns.drop (q + 1)) <;> simp
    have HE2 := Lib.hid hE
    clear hf hE
    go_wp2_with (at_builtin; refine Xo.wpList_appb (w.heap.size + 1) rfl _ _ 98 rfl 3 i0 _ 1 8 Tryz.underlying98 Hi.out Hz0.out Hz1.out Hz2.out rfl (by decide) (.slice ps q cs') q _ rfl (own_same HO2.out (fun b hb => (extA w2 (.cells #[Value.int .i64 i] 3)).block b (HO2.out.lt b hb).2)) w2.heap.size 0 1 1 [Value.int .i64 i] rfl (by decide) rfl (cells_list w2 _ _ rfl) (one_all (by kernel_rfl)) (by omega) (by rw [World.size_alloc]; omega) ?_; intro v' w7 ho' hg' hk')
    have HO7 : Hid (w7.ownsRow (w.heap.size + 1) 3 1 v' (q + 1) ((r ++ [i]).map fun n : Nat => Value.int .i64 n)) := Lib.hid (by rw [List.map_append]; exact ho')
    have hx7 : Xk.Ext (w.alloc (.cells #[bs m, v, k0, q0] 33)) w7 := Below.grown (Xk.Ext.trans HX2.out (extA w2 _)) hg' (by rw [World.size_alloc, World.size_alloc]; have := HX2.out.size; rw [World.size_alloc] at this; omega) (fun k hk => by rw [World.size_alloc]; exact (HO2.out.lt k hk).1)
    have HX7 := Lib.hid hx7
    clear ho' hg' hk' hx7
    go_roundw
    case rel => exact ⟨q + 1, r ++ [i], by omega, by go_num, HX7.out, HO7.out, Lib.hid (by rw [List.length_append, HRL.out]; rfl), HE2⟩
    case measure => simp [intOf]; omega
  ·have hlb : ¬ (q : Int) < (ns.length : Int) := by omega
   have hE := HE.out
   rw [List.drop_of_length_le (by omega), P13.places] at hE
   have HR := Lib.hid (show res = some r by rw [hE]; simp)
   clear hE hx ho hxw
   go_wp2_with fail
   go_ret2
   have hlr := HRL.out
   have hrr := Option.some.inj HR.out
   have hs := own_slc1 (l := r) (f := fun n : Nat => Value.int .i64 n) (by rw [hlr]; exact HO.out) (by omega)
   rw [← hrr] at hs
   exact ⟨⟨_, rfl, hs.keep (fun _ _ _ => rfl) (fun b hb _ => by omega) (fun _ _ h => h)⟩, HXW.out⟩
theorem flat_len {sz : Nat} : ∀ {us : List (List Value)}, (∀ u ∈ us, u.length = sz) → us.flatten.length = us.length * sz
 | [], _ => by simp
 | u :: us, h => by rw [List.flatten_cons, List.length_append, flat_len (fun v hv => h v (by simp [hv])), h u (by simp), List.length_cons, Nat.succ_mul, Nat.add_comm]
theorem flat_set {sz : Nat} : ∀ {us : List (List Value)}, (∀ u ∈ us, u.length = sz) → ∀ {j : Nat} {u : List Value} {o : Nat} {v : Value}, us[j]? = some u → o < sz → (us.set j (u.set o v)).flatten = us.flatten.set (j * sz + o) v
 | [], _, _, _, _, _, h, _ => by simp at h
 | y :: us, hl, 0, u, o, v, h, ho => by
  simp only [List.getElem?_cons_zero, Option.some.injEq] at h
  subst h
  have := hl y (by simp)
  rw [List.set_cons_zero, List.flatten_cons, List.flatten_cons, Nat.zero_mul, Nat.zero_add, List.set_append_left _ _ (by omega)]
 | y :: us, hl, j + 1, u, o, v, h, ho => by
  have hy := hl y (by simp)
  rw [List.set_cons_succ, List.flatten_cons, List.flatten_cons, flat_set (fun u hu => hl u (by simp [hu])) (by simpa using h) ho, Nat.succ_mul, List.set_append_right _ _ (by omega), hy, show j * sz + sz + o - sz = j * sz + o by omega]
theorem Own.setCell {α : Type} {S : Nat → Prop} {e : TypeId} {sz : Nat} {R : (Nat → Prop) → World → α → List Value → Prop} {xs : List α} {z n cz : Nat} {w : World} (hR : Stab R)
  (h : Own S e sz R xs (.slice (some ⟨z, 0, none⟩) n cz) w) {j o : Nat} {x0 x : α} (hj : xs[j]? = some x0) (ho : o < sz) (v : Value) (hx : ∀ u, R (fun b => S b ∧ ¬ z = b) w x0 u → R (fun b => S b ∧ ¬ z = b) w x (u.set o v)) :
  Own S e sz R (xs.set j x) (.slice (some ⟨z, 0, none⟩) n cz) (w.setCell ⟨z, j * sz + o, none⟩ v) := by
 obtain ⟨us, h0, h1, hown, h2, h3, h4⟩ := h
 have hjl := (List.getElem?_eq_some_iff.1 hj).1
 have hu : us[j]? = some us[j] := List.getElem?_eq_getElem (by omega)
 have hoth : ∀ b, (S b ∧ ¬ (Value.slice (some ⟨z, 0, none⟩) n cz).ownBlock = some b) → (w.setCell ⟨z, j * sz + o, none⟩ v).heap[b]? = w.heap[b]? := fun b hb =>
  heap_setCell_other w ⟨z, j * sz + o, none⟩ b v (fun e => hb.2 (by have e' : b = z := (by simpa using e); rw [e']; rfl))
 have hs : ∀ b, (S b ∧ ¬ (Value.slice (some ⟨z, 0, none⟩) n cz).ownBlock = some b) → S b ∧ ¬ z = b := fun b hb => ⟨hb.1, fun e => hb.2 (by rw [e]; rfl)⟩
 have hs' : ∀ b, (S b ∧ ¬ z = b) → (S b ∧ ¬ (Value.slice (some ⟨z, 0, none⟩) n cz).ownBlock = some b) := fun b hb => ⟨hb.1, fun e => hb.2 (by simpa [Value.ownBlock] using e)⟩
 have hmv : ∀ y u, R (fun b => S b ∧ ¬ z = b) w y u → R (fun b => S b ∧ ¬ (Value.slice (some ⟨z, 0, none⟩) n cz).ownBlock = some b) (w.setCell ⟨z, j * sz + o, none⟩ v) y u := fun y u hr =>
  hR _ _ _ _ _ _ hr (fun b hb _ => hoth b (hs' b hb)) (fun b hb _ => hs' b hb)
 refine ⟨us.set j (us[j].set o v), fun e => h0 (by simpa using e), ?_, hown, by simp [h2], fun u hu' => ?_, fun i y u hy hu' => ?_⟩
 ·rw [List.length_set, flat_set h3 hu ho]
  refine ⟨by rw [List.length_set]; exact h1.1, ?_⟩
  rcases h1.2 with ⟨hv, -⟩ | ⟨g, cap, cur, hv, a1, a2, a3, a4, a5, a6⟩
  ·cases hv
  ·cases hv
   refine .inr ⟨z, cz, cur.setIfInBounds (j * sz + o) v, rfl, a1, heap_setCell_same w z _ _ _ v a2, a3, a4, by simpa using a5, ?_⟩
   rw [Array.toList_setIfInBounds, List.take_set, a6]
 ·rcases List.mem_or_eq_of_mem_set hu' with hm | rfl
  ·exact h3 u hm
  ·rw [List.length_set]; exact h3 _ (List.getElem_mem _)
 ·by_cases e : j = i
  ·subst e
   rw [List.getElem?_set_self (by omega)] at hy hu'
   cases hy
   cases hu'
   exact hmv _ _ (hx _ (hR _ _ _ _ _ _ (h4 j x0 _ hj hu) (fun _ _ _ => rfl) (fun b hb _ => hs b hb)))
  ·rw [List.getElem?_set_ne e] at hy hu'
   exact hmv _ _ (hR _ _ _ _ _ _ (h4 i y u hy hu') (fun _ _ _ => rfl) (fun b hb _ => hs b hb))
theorem Own.frozen {α : Type} {S : Nat → Prop} {e : TypeId} {sz : Nat} {R : (Nat → Prop) → World → α → List Value → Prop} {xs : List α} {z n cz : Nat} {w : World} (h : Own S e sz R xs (.slice (some ⟨z, 0, none⟩) n cz) w) (o : Nat) : w.frozen? ⟨z, o, none⟩ = false := by
 obtain ⟨-, cur, hc, -⟩ := h.mem
 exact frozen_of_row w z o _ _ hc
theorem Own.elem {α : Type} {S : Nat → Prop} {e : TypeId} {sz : Nat} {R : (Nat → Prop) → World → α → List Value → Prop} {xs : List α} {v : Value} {w : World} (hR : Stab R) (h : Own S e sz R xs v w) (hsz : 0 < sz) {j : Nat} {x : α} (hj : xs[j]? = some x) :
  ∃ z cz u, v = .slice (some ⟨z, 0, none⟩) xs.length cz ∧ S z ∧ z < w.heap.size ∧ u.length = sz ∧ R (fun b => S b ∧ ¬ z = b) w x u ∧ w.rangeAt z (j * sz) u := by
 obtain ⟨us, h0, h1, hown, h2, h3, h4⟩ := h
 have hjl := (List.getElem?_eq_some_iff.1 hj).1
 have hu : us[j]? = some us[j] := List.getElem?_eq_getElem (by omega)
 rcases h1.2 with ⟨rfl, hn⟩ | ⟨z, cap, cur, rfl, a1, a2, a3, a4, a5, a6⟩
 ·omega
 ·refine ⟨z, cap, us[j], rfl, hown z rfl, (h1.lt z rfl).2, h3 _ (List.getElem_mem _), hR _ _ _ _ _ _ (h4 j x _ hj hu) (fun _ _ _ => rfl) (fun b hb _ => ⟨hb.1, fun e => hb.2 (by rw [e]; rfl)⟩), fun i v hv => ?_⟩
  have hi : i < sz := by have := (List.getElem?_eq_some_iff.1 hv).1; rw [h3 _ (List.getElem_mem _)] at this; exact this
  have hf := flat_at us h3 j _ hu i hi
  rw [hv, ← a6, List.getElem?_take] at hf
  split at hf
  ·simp only [World.cell?, a2, Option.isSome_none, Bool.false_eq_true, if_false]
   simpa using hf
  ·cases hf
def otabR (S : Nat → Prop) (w : World) (t : P13.Tb) (u : List Value) : Prop :=
 t.checks = [] ∧ ∃ tc tk, u = [bs t.name, tc, tk, nilS] ∧ Own (fun b => S b ∧ ¬ tk.ownBlock = some b) 51 3 (fun _ _ => colR) t.cols tc w ∧ Own (fun b => S b ∧ ¬ tc.ownBlock = some b) 100 4 kyR t.keys tk w
theorem stab_otab : Stab otabR := fun S S' w w' t u ⟨hq, tc, tk, h1, h2, h3⟩ hb hS =>
 ⟨hq, tc, tk, h1, h2.keep stab_col (fun b h => hb b h.1) (fun b h hl => ⟨hS b h.1 hl, h.2⟩), h3.keep stab_ky (fun b h => hb b h.1) (fun b h hl => ⟨hS b h.1 hl, h.2⟩)⟩
theorem otabR.tbl {S : Nat → Prop} {w : World} {t : P13.Tb} {u : List Value} (h : otabR S w t u) : tblR S w t u := by
 obtain ⟨hq, tc, tk, h1, h2, h3⟩ := h
 exact ⟨tc, tk, nilS, h1, (h2.slc stab_col (by decide)).keep (fun _ _ _ => rfl) (fun b h _ => h.1) (fun _ _ h => h), (h3.slc stab_ky (by decide)).keep (fun _ _ _ => rfl) (fun b h _ => h.1) (fun k u h => stab_ky _ _ _ _ _ _ h (fun _ _ _ => rfl) (fun b h _ => h.1)), .inl ⟨hq, rfl⟩⟩
theorem Own.imp {α β : Type} {S : Nat → Prop} {e : TypeId} {sz : Nat} {R : (Nat → Prop) → World → α → List Value → Prop} {R' : (Nat → Prop) → World → β → List Value → Prop} {xs : List α} {ys : List β} {v : Value} {w : World} (h : Own S e sz R xs v w) (hl : ys.length = xs.length)
  (hR : ∀ (j : Nat) x y u, xs[j]? = some x → ys[j]? = some y → R (fun b => S b ∧ ¬ v.ownBlock = some b) w x u → R' (fun b => S b ∧ ¬ v.ownBlock = some b) w y u) : Own S e sz R' ys v w := by
 obtain ⟨us, h0, h1, h2, h3, h4, h5⟩ := h
 refine ⟨us, fun e => h0 (List.eq_nil_of_length_eq_zero (by rw [← hl, e]; rfl)), by rw [hl]; exact h1, h2, by rw [hl]; exact h3, h4, fun j y u hy hu => ?_⟩
 have hj := (List.getElem?_eq_some_iff.1 hy).1
 exact hR j xs[j] y u (List.getElem?_eq_getElem (by omega)) hy (h5 j _ u (List.getElem?_eq_getElem (by omega)) hu)
def otR (κ : Nat → Nat) (S : Nat → Prop) (w : World) (x : P13.Tb × Nat) (u : List Value) : Prop := otabR (fun b => S b ∧ κ b = x.2 + 1) w x.1 u
theorem stab_ot (κ : Nat → Nat) : Stab (otR κ) := fun S S' w w' x u h hb hS => stab_otab _ _ _ _ _ _ h (fun b h => hb b h.1) (fun b h hl => ⟨hS b h.1 hl, h.2⟩)
def OSch (B : Nat) (w : World) (s : P13.Sch) (v : Value) : Prop := ∃ κ, Own (fun b => B ≤ b) 33 4 (otR κ) s.zipIdx v w
theorem OSch.nil (B : Nat) (w : World) : OSch B w [] nilS := ⟨fun _ => 0, Own.nil⟩
theorem OSch.keep {B B' : Nat} {w w' : World} {s : P13.Sch} {v : Value} (h : OSch B w s v) (hb : ∀ b, B ≤ b → b < w.heap.size → w'.heap[b]? = w.heap[b]?) (hB : B' ≤ B) : OSch B' w' s v := by
 obtain ⟨κ, h⟩ := h
 exact ⟨κ, h.keep (stab_ot κ) hb (fun b h _ => by omega)⟩
theorem OSch.tabs {B : Nat} {w : World} {s : P13.Sch} {v : Value} (h : OSch B w s v) : Own (fun b => B ≤ b) 33 4 tblR s v w := by
 obtain ⟨κ, h⟩ := h
 refine h.imp (by simp) fun j x t u hx ht hu => ?_
 rw [List.getElem?_zipIdx, ht] at hx
 simp only [Option.map_some, Option.some.injEq] at hx
 subst hx
 exact stab_tbl _ _ _ _ _ _ (otabR.tbl hu) (fun _ _ _ => rfl) (fun b h _ => h.1)
theorem OSch.sch {B : Nat} {w : World} {s : P13.Sch} {v : Value} (h : OSch B w s v) : SchAt (fun b => B ≤ b) w s v := h.tabs.slc stab_tbl (by decide)
def EqFn (F FI : FuncId) (sz : Nat) : Prop := ∀ {α : Type} {S1 S2 : Nat → Prop} {R1 R2 : α → List Value → Prop} {l : List α} {v1 v2 : Value} (w : World), Ent FI → (∀ x u, R1 x u ∨ R2 x u → u.toArray.all (·.oneCell') = true) → SlcAt S1 w sz R1 l v1 → SlcAt S2 w sz R2 l v2 → l.length ≤ 1000000 →
 (∀ x u1 u2, x ∈ l → R1 x u1 → R2 x u2 → u1.length = sz → u2.length = sz → ∀ W, Xk.Ext w W → Calls Tryz.prog FI #[.agg u1.toArray, .agg u2.toArray] W fun e w' => e = .returned (.bool true) ∧ Xk.Ext W w') →
 Calls Tryz.prog F #[v1, v2, .func (.func FI) #[] #[]] w fun e w' => e = .returned (.bool true) ∧ Xk.Ext w w'
theorem eqf_any (FI : FuncId) : EqFn 103 FI 4 ∧ EqFn 108 FI 4 ∧ EqFn 106 FI 10 := by
 refine ⟨?a, ?b, ?c⟩
 case' a | b | c =>
  intro α S1 S2 R1 R2 l v1 v2 w hent hone h1 h2 hl hF
  have hcf := hent.run
  have hci := hent.no
  have HF := Lib.hid hF
  have H1 := Lib.hid h1
  have H2 := Lib.hid h2
  obtain ⟨p1, c1, rfl⟩ := h1.len
  obtain ⟨p2, c2, rfl⟩ := h2.len
  clear hF h1 h2 hent
 case' a => go_enter Tryz.func103, Tryz.ntmps103
 case' b => go_enter Tryz.func108, Tryz.ntmps108
 case' c => go_enter Tryz.func106, Tryz.ntmps106
 all_goals
  go_wp2_with fail
  go_loopw [17] (fun x wr => ∃ q : Nat, q ≤ l.length ∧ x = .int .i64 q ∧ Xk.Ext w wr) (fun x _ => l.length - (intOf x).toNat)
  case atStart => exact ⟨0, by omega, rfl, Below.refl _ _⟩
  case round =>
   obtain ⟨q, hq, rfl, hx⟩ := hrel
   have HX := Lib.hid hx
   clear hx
   by_cases hlt : q < l.length
   ·obtain ⟨g1, rfl⟩ := H1.out.root (by omega)
    obtain ⟨g2, rfl⟩ := H2.out.root (by omega)
    obtain ⟨-, -, he⟩ := H1.out.elem
    obtain ⟨u1, hu1, hl1, hr1⟩ := he q _ (List.getElem?_eq_getElem hlt)
    obtain ⟨-, -, he2⟩ := H2.out.elem
    obtain ⟨u2, hu2, hl2, hr2⟩ := he2 q _ (List.getElem?_eq_getElem hlt)
    have hmem := List.getElem_mem hlt
    have hg1 := World.block_lt_of_cell? _ _ (hr1 0 u1[0] (List.getElem?_eq_getElem (by omega)))
    have hg2 := World.block_lt_of_cell? _ _ (hr2 0 u2[0] (List.getElem?_eq_getElem (by omega)))
    have HA := Lib.hid (range_same hr1 (HX.out.block g1 hg1))
    have HB := Lib.hid fun W (hW : Xk.Ext wr W) => range_same (range_same hr2 (HX.out.block g2 hg2)) (hW.block g2 (Nat.lt_of_lt_of_le hg2 HX.out.size))
    have HC := Lib.hid fun W (hW : Xk.Ext wr W) => HF.out _ u1 u2 hmem hu1 hu2 hl1 hl2 W (Xk.Ext.trans HX.out hW)
    have HO1 := Lib.hid (hone _ _ (.inl hu1))
    have HO2 := Lib.hid (hone _ _ (.inr hu2))
    have hlb : (q : Int) < (l.length : Int) := by omega
    have hwg1 : g1 < wr.heap.size := Nat.lt_of_lt_of_le hg1 HX.out.size
    clear hr1 hr2 hu1 hu2 he he2 hmem
    go_wp2_with (first
     | (refine wpList_load_mid rfl _ _ rfl g1 _ rfl _ _ HA.out (by first | exact Tryz.underlying33 | exact Tryz.underlying100 | exact Tryz.underlying41) (by rfl) (by simp only [List.size_toArray, hl1]; kernel_rfl) ?_)
     | (refine wpList_putRow rfl _ _ _ rfl wr.heap.size _ _ _ rfl rfl (heap_new wr _) (by simp [hl1]) (by simp only [List.size_toArray, hl1]; kernel_rfl) HO1.out ?_; intro w3 hp3; have hx3 := puts_ext hp3 (extA wr _) (Nat.le_refl _); have hwg2 : g2 < w3.heap.size := Nat.lt_of_lt_of_le hg2 (Nat.le_trans HX.out.size hx3.size))
     | (refine wpList_load_mid rfl _ _ rfl g2 _ rfl _ _ (HB.out _ hx3) (by first | exact Tryz.underlying33 | exact Tryz.underlying100 | exact Tryz.underlying41) (by rfl) (by simp only [List.size_toArray, hl2]; kernel_rfl) ?_)
     | (refine wpList_putRow rfl _ _ _ rfl w3.heap.size _ _ _ rfl rfl (heap_new w3 _) (by simp [hl2]) (by simp only [List.size_toArray, hl2]; kernel_rfl) HO2.out ?_; intro w4 hp4; have hx4 := puts_ext hp4 (extA w3 _) (Nat.le_refl _); have b8 := (hx4.block _ (Array.getElem?_eq_some_iff.1 hp3.blk).1).trans hp3.blk; have b9 := hp4.blk)
     | (refine lw b8 Tryz.underlying33 ?_ (hi := by simp only [List.size_toArray, hl1]; kernel_rfl)) | (refine lw b8 Tryz.underlying100 ?_ (hi := by simp only [List.size_toArray, hl1]; kernel_rfl)) | (refine lw b8 Tryz.underlying41 ?_ (hi := by simp only [List.size_toArray, hl1]; kernel_rfl))
     | (refine lw b9 Tryz.underlying33 ?_ (hi := by simp only [List.size_toArray, hl2]; kernel_rfl)) | (refine lw b9 Tryz.underlying100 ?_ (hi := by simp only [List.size_toArray, hl2]; kernel_rfl)) | (refine lw b9 Tryz.underlying41 ?_ (hi := by simp only [List.size_toArray, hl2]; kernel_rfl)))
    have hx14 := Xk.Ext.trans hx3 hx4
    refine (HC.out _ hx14).mono ?_
    rintro e w' ⟨rfl, hx'⟩
    clear b8 b9 hp3 hp4
    go_wp2_with fail
    go_roundw
    case rel => exact ⟨q + 1, by omega, by go_num, Xk.Ext.trans HX.out (Xk.Ext.trans hx14 hx')⟩
    case measure => simp [intOf]; omega
   ·have hlb : ¬ (q : Int) < (l.length : Int) := by omega
    go_wp2_with fail
    go_ret
    exact ⟨rfl, HX.out⟩
theorem eqInts_any {S1 S2 : Nat → Prop} {l : List Nat} {v1 v2 : Value} (w : World) (h1 : SlcAt S1 w 1 intR l v1) (h2 : SlcAt S2 w 1 intR l v2) (hl : l.length ≤ 1000) : Calls Tryz.prog 110 #[v1, v2] w fun e w' => e = .returned (.bool true) ∧ Xk.Ext w w' := by
 obtain ⟨p1, c1, rfl⟩ := h1.len
 obtain ⟨p2, c2, rfl⟩ := h2.len
 by_cases h0 : l.length = 0
 ·rw [h0]
  refine (Tryz.slices_Equal_int_empty p1 p2 c1 0 c2 w (by omega)).mono ?_
  rintro e w' ⟨rfl, rfl⟩
  exact ⟨rfl, Below.refl _ _⟩
 ·obtain ⟨g1, rfl⟩ := h1.root (by omega)
  obtain ⟨g2, rfl⟩ := h2.root (by omega)
  have hc : ∀ (S : Nat → Prop) (g c : Nat), SlcAt S w 1 intR l (.slice (some ⟨g, 0, none⟩) l.length c) → ∀ j, j < (l.map fun n : Nat => (n : Int)).length → w.cell? ⟨g, 0 + j, none⟩ = some (.int .i64 ((l.map fun n : Nat => (n : Int)).getD j 0)) := fun S g c h j hj => by
   have hj' : j < l.length := by simpa using hj
   rw [List.getD_eq_getElem?_getD, List.getElem?_map, List.getElem?_eq_getElem hj', Nat.zero_add]
   exact slc_cell1 (f := fun n : Nat => .int .i64 n) h j hj'
  refine (Tryz.slices_Equal_int g1 0 l.length c1 g2 0 l.length c2 (l.map fun n : Nat => (n : Int)) (l.map fun n : Nat => (n : Int)) w (by simp) (by simp) (by omega) (by omega) (hc _ _ _ h1) (hc _ _ _ h2)).mono ?_
  rintro e w' ⟨rfl, q, rfl⟩
  exact ⟨by simp, below_drewN (Below.refl _ _) q⟩
theorem ent_eqKey : Ent 109 := ⟨fun _ _ => by go_simp, by decide⟩
theorem eqKey_any {S1 S2 : Nat → Prop} {k : P13.Ky} {u1 u2 : List Value} (W : World) (h1 : kyR S1 W k u1) (h2 : kyR S2 W k u2) (hl : k.cols.length ≤ 1000) : Calls Tryz.prog 109 #[.agg u1.toArray, .agg u2.toArray] W fun e w' => e = .returned (.bool true) ∧ Xk.Ext W w' := by
 obtain ⟨v1, rfl, h1⟩ := h1
 obtain ⟨v2, rfl, h2⟩ := h2
 have hk : ∀ {S : Nat → Prop} {v : Value} {W' : World}, Xk.Ext W W' → SlcAt S W 1 intR k.cols v → SlcAt S W' 1 intR k.cols v := fun hx h => h.keep (fun b _ hl => hx.block b hl) (fun _ hb _ => hb) (fun _ _ h => h)
 have HE := Lib.hid fun W' (hx : Xk.Ext W W') => eqInts_any W' (hk hx h1) (hk hx h2) hl
 obtain ⟨p1, c1, rfl⟩ := h1.len
 obtain ⟨p2, c2, rfl⟩ := h2.len
 have hx2 : Xk.Ext W ((W.alloc (.cells #[bs k.name, .slice p1 k.cols.length c1, .bool k.uniq, .bool k.prim] 100)).alloc (.cells #[bs k.name, .slice p2 k.cols.length c2, .bool k.uniq, .bool k.prim] 100)) := Xk.xt
 have HX := Lib.hid hx2
 clear h1 h2 hk hx2
 go_enter Tryz.func109, Tryz.ntmps109
 go_wp2_with fail
 refine (HE.out _ HX.out).mono ?_
 rintro e w1 ⟨rfl, hx1⟩
 have hb1 := (hx1.block _ (by simp only [World.size_alloc]; omega)).trans ((extA _ _).block _ (by simp only [World.size_alloc]; omega) |>.trans (heap_new W (.cells #[bs k.name, .slice p1 k.cols.length c1, .bool k.uniq, .bool k.prim] 100)))
 have hb2 := (hx1.block _ (by simp only [World.size_alloc]; omega)).trans (heap_new (W.alloc (.cells #[bs k.name, .slice p1 k.cols.length c1, .bool k.uniq, .bool k.prim] 100)) (.cells #[bs k.name, .slice p2 k.cols.length c2, .bool k.uniq, .bool k.prim] 100))
 rw [World.size_alloc] at hb2
 have a2 : w1.cell? ⟨W.heap.size, 2, none⟩ = some (.bool k.uniq) := by simp [World.cell?, hb1]
 have a3 : w1.cell? ⟨W.heap.size, 3, none⟩ = some (.bool k.prim) := by simp [World.cell?, hb1]
 have b2 : w1.cell? ⟨W.heap.size + 1, 2, none⟩ = some (.bool k.uniq) := by simp [World.cell?, hb2]
 have b3 : w1.cell? ⟨W.heap.size + 1, 3, none⟩ = some (.bool k.prim) := by simp [World.cell?, hb2]
 have l1 := World.block_lt_of_cell? _ _ a2
 have l2 := World.block_lt_of_cell? _ _ b2
 have HX1 := Lib.hid (Xk.Ext.trans HX.out hx1)
 clear hb1 hb2 hx1
 go_wp2_with fail
 go_ret
 exact ⟨rfl, HX1.out⟩
theorem eqCols_any {S1 S2 : Nat → Prop} {cs : P13.Cols} {v1 v2 : Value} (w : World) (h1 : SlcAt S1 w 3 colR cs v1) (h2 : SlcAt S2 w 3 colR cs v2) (hl : cs.length ≤ 1000) : Calls Tryz.prog 105 #[v1, v2] w fun e w' => e = .returned (.bool true) ∧ Xk.Ext w w' := by
 have H1 := Lib.hid h1
 have H2 := Lib.hid h2
 obtain ⟨p1, c1, rfl⟩ := h1.len
 obtain ⟨p2, c2, rfl⟩ := h2.len
 clear h1 h2
 go_enter Tryz.func105, Tryz.ntmps105
 go_wp2_with fail
 go_loopw [13] (fun x wr => ∃ q : Nat, q ≤ cs.length ∧ x = .int .i64 q ∧ Xk.Ext w wr) (fun x _ => cs.length - (intOf x).toNat)
 case atStart => exact ⟨0, by omega, rfl, Below.refl _ _⟩
 case round =>
  obtain ⟨q, hq, rfl, hx⟩ := hrel
  have HX := Lib.hid hx
  clear hx
  by_cases hlt : q < cs.length
  ·obtain ⟨g1, rfl⟩ := H1.out.root (by omega)
   obtain ⟨g2, rfl⟩ := H2.out.root (by omega)
   obtain ⟨-, -, he⟩ := H1.out.elem
   obtain ⟨u1, hu1, -, hr1⟩ := he q _ (List.getElem?_eq_getElem hlt)
   obtain ⟨-, -, he2⟩ := H2.out.elem
   obtain ⟨u2, hu2, -, hr2⟩ := he2 q _ (List.getElem?_eq_getElem hlt)
   generalize cs[q] = c at *
   obtain ⟨a, b, d⟩ := c
   obtain rfl : u1 = _ := hu1
   obtain rfl : u2 = _ := hu2
   have hg1 := World.block_lt_of_cell? _ _ (hr1 0 _ rfl)
   have hg2 := World.block_lt_of_cell? _ _ (hr2 0 _ rfl)
   have HA := Lib.hid (range_same hr1 (HX.out.block g1 hg1))
   have HB := Lib.hid (range_same hr2 (HX.out.block g2 hg2))
   have hlb : (q : Int) < (cs.length : Int) := by omega
   have hwg1 : g1 < wr.heap.size := Nat.lt_of_lt_of_le hg1 HX.out.size
   have hwg2 : g2 < wr.heap.size := Nat.lt_of_lt_of_le hg2 HX.out.size
   clear hr1 hr2 he he2 hg1 hg2
   have a0 := HA.out 0 _ rfl
   have a1 := HA.out 1 _ rfl
   have a2 := HA.out 2 _ rfl
   have b0 := HB.out 0 _ rfl
   have b1 := HB.out 1 _ rfl
   have b2 := HB.out 2 _ rfl
   rw [Nat.add_zero] at a0 b0
   go_wp2_with fail
   refine Xk.reg 9 (Xk.w0 fun p => ?_)
   clear a0 a1 a2 b0 b1 b2
   go_wp2_with fail
   go_roundw
   case rel => exact ⟨q + 1, by omega, by go_num, Xk.Ext.trans HX.out Xk.xt⟩
   case measure => simp [intOf]; omega
  ·have hlb : ¬ (q : Int) < (cs.length : Int) := by omega
   go_wp2_with fail
   go_ret
   exact ⟨rfl, HX.out⟩
theorem ent_eqTbl : Ent 104 := ⟨fun _ _ => by go_simp, by decide⟩
theorem ent_eqExpr : Ent 107 := ⟨fun _ _ => by go_simp, by decide⟩
theorem SlcAt.extG {α : Type} {S : Nat → Prop} {w W : World} {sz : Nat} {R : α → List Value → Prop} {l : List α} {v : Value} (h : SlcAt S w sz R l v) (hx : Xk.Ext w W) : SlcAt S W sz R l v := h.keep (fun b _ hl => hx.block b hl) (fun b hb _ => hb) (fun _ _ h => h)
theorem kyR.ext {S : Nat → Prop} {w W : World} {k : P13.Ky} {u : List Value} (h : kyR S w k u) (hx : Xk.Ext w W) : kyR S W k u := stab_ky _ _ _ _ _ _ h (fun b _ hl => hx.block b hl) (fun b hb _ => hb)
theorem kyR.one {S : Nat → Prop} {w : World} {k : P13.Ky} {u : List Value} (h : kyR S w k u) : u.toArray.all (·.oneCell') = true := by
 obtain ⟨v, rfl, h⟩ := h
 obtain ⟨p, c, rfl⟩ := h.len
 kernel_rfl
theorem tblR.one {S : Nat → Prop} {w : World} {t : P13.Tb} {u : List Value} (h : tblR S w t u) : u.toArray.all (·.oneCell') = true := by
 obtain ⟨tc, tk, tq, rfl, h1, h2, h3⟩ := h
 obtain ⟨p1, c1, rfl⟩ := h1.len
 obtain ⟨p2, c2, rfl⟩ := h2.len
 obtain ⟨p3, c3, rfl⟩ := h3.len
 kernel_rfl
theorem eqTbl_any {S1 S2 : Nat → Prop} {t : P13.Tb} {u1 u2 : List Value} (W : World) (h1 : tblR S1 W t u1) (h2 : tblR S2 W t u2) (hq : t.checks = []) (hc : t.cols.length ≤ 1000) (hk : t.keys.length ≤ 1000) (hkc : ∀ k ∈ t.keys, k.cols.length ≤ 1000) :
  Calls Tryz.prog 104 #[.agg u1.toArray, .agg u2.toArray] W fun e w' => e = .returned (.bool true) ∧ Xk.Ext W w' := by
 have hmf := mkfun
 obtain ⟨tc, tk, tq, rfl, a1, a2, a3⟩ := h1
 obtain ⟨tc', tk', tq', rfl, b1, b2, b3⟩ := h2
 have HC := Lib.hid fun W' (hx : Xk.Ext W W') => eqCols_any W' (a1.extG hx) (b1.extG hx) hc
 have HQ := Lib.hid fun W' (hx : Xk.Ext W W') => (eqf_any 107).2.2 (R1 := fun _ _ => False) (R2 := fun _ _ => False) (l := ([] : List P12.E)) (v1 := nilS) (v2 := nilS) (S1 := S1) (S2 := S2) W' ent_eqExpr (fun _ _ h => by rcases h with h | h <;> exact h.elim) (.inl ⟨rfl, rfl⟩) (.inl ⟨rfl, rfl⟩) (by simp) (fun x _ _ hx => by cases hx)
 have HK := Lib.hid fun W' (hx : Xk.Ext W W') => (eqf_any 109).2.1 W' ent_eqKey (R1 := kyR S1 W) (R2 := kyR S2 W) (fun _ _ h => by rcases h with h | h <;> exact h.one) (a2.extG hx) (b2.extG hx) (by omega) (fun k u1 u2 hm r1 r2 _ _ W2 hx2 => eqKey_any W2 (r1.ext (Xk.Ext.trans hx hx2)) (r2.ext (Xk.Ext.trans hx hx2)) (hkc k hm))
 obtain ⟨p1, c1, rfl⟩ := a1.len
 obtain ⟨p2, c2, rfl⟩ := a2.len
 obtain ⟨p1', c1', rfl⟩ := b1.len
 obtain ⟨p2', c2', rfl⟩ := b2.len
 have e3 : tq = nilS := by
  rcases a3 with ⟨-, e⟩ | ⟨g, c, us, -, -, h0, -⟩
  ·exact e
  ·rw [hq] at h0; simp at h0
 have e3' : tq' = nilS := by
  rcases b3 with ⟨-, e⟩ | ⟨g, c, us, -, -, h0, -⟩
  ·exact e
  ·rw [hq] at h0; simp at h0
 subst e3 e3'
 obtain ⟨O1, hO1⟩ : ∃ O, O = Obj.cells #[bs t.name, .slice p1 t.cols.length c1, .slice p2 t.keys.length c2, nilS] 33 := ⟨_, rfl⟩
 obtain ⟨O2, hO2⟩ : ∃ O, O = Obj.cells #[bs t.name, .slice p1' t.cols.length c1', .slice p2' t.keys.length c2', nilS] 33 := ⟨_, rfl⟩
 have hx2 : Xk.Ext W ((W.alloc O1).alloc O2) := Xk.Ext.trans (extA _ _) (extA _ _)
 have hcell : ∀ W', Xk.Ext ((W.alloc O1).alloc O2) W' → (W'.cell? ⟨W.heap.size, 2, none⟩ = some (.slice p2 t.keys.length c2) ∧ W'.cell? ⟨W.heap.size, 3, none⟩ = some nilS) ∧ (W'.cell? ⟨W.heap.size + 1, 2, none⟩ = some (.slice p2' t.keys.length c2') ∧ W'.cell? ⟨W.heap.size + 1, 3, none⟩ = some nilS) ∧ W.heap.size + 1 < W'.heap.size := fun W' hx => by
  have hs := hx.size
  simp only [World.size_alloc] at hs
  have h1 := (hx.block _ (by simp only [World.size_alloc]; omega)).trans ((extA _ _).block _ (by simp only [World.size_alloc]; omega) |>.trans (heap_new W O1))
  have h2 := (hx.block _ (by simp only [World.size_alloc]; omega)).trans (heap_new (W.alloc O1) O2)
  rw [World.size_alloc] at h2
  rw [hO1] at h1
  rw [hO2] at h2
  refine ⟨⟨?_, ?_⟩, ⟨?_, ?_⟩, by omega⟩ <;> simp [World.cell?, h1, h2]
 have HX := Lib.hid hx2
 have HCL := Lib.hid hcell
 rw [hO1, hO2] at HX HCL
 clear a1 a2 a3 b1 b2 b3 hx2 hcell hkc hO1 hO2 O1 O2
 go_enter Tryz.func104, Tryz.ntmps104
 go_wp2_with fail
 refine (HC.out _ HX.out).mono ?_
 rintro e w1 ⟨rfl, hx1⟩
 obtain ⟨⟨k1, q1⟩, ⟨k2, q2⟩, l1⟩ := HCL.out _ hx1
 have HX1 := Lib.hid hx1
 have l0 : W.heap.size < w1.heap.size := by omega
 clear hx1
 go_wp2_with fail
 refine (HQ.out _ (Xk.Ext.trans HX.out HX1.out)).mono ?_
 rintro e w2 ⟨rfl, hx2⟩
 clear k1 k2 q1 q2 l1 l0
 obtain ⟨⟨k1, q1⟩, ⟨k2, q2⟩, l1⟩ := HCL.out _ (Xk.Ext.trans HX1.out hx2)
 have HX2 := Lib.hid (Xk.Ext.trans HX1.out hx2)
 have l0 : W.heap.size < w2.heap.size := by omega
 clear hx2 q1 q2
 go_wp2_with fail
 refine (HK.out _ (Xk.Ext.trans HX.out HX2.out)).mono ?_
 rintro e w3 ⟨rfl, hx3⟩
 go_wp2_with fail
 go_ret
 exact ⟨rfl, Xk.Ext.trans (Xk.Ext.trans HX.out HX2.out) hx3⟩
structure Low (s : P13.Sch) : Prop where
 tabs : s.length ≤ 1000
 checks : ∀ t ∈ s, t.checks = []
 cols : ∀ t ∈ s, t.cols.length ≤ 1000
 keys : ∀ t ∈ s, t.keys.length ≤ 1000
 kcols : ∀ t ∈ s, ∀ k ∈ t.keys, k.cols.length ≤ 1000
theorem eqSch_any {S1 S2 : Nat → Prop} {s : P13.Sch} {v1 v2 : Value} (w : World) (h1 : SchAt S1 w s v1) (h2 : SchAt S2 w s v2) (hs : Low s) : Calls Tryz.prog 38 #[.agg #[v1], .agg #[v2]] w fun e w' => e = .returned (.bool true) ∧ Xk.Ext w w' := by
 have hmf := mkfun
 have HI := Lib.hid fun W (hx : Xk.Ext w W) => (eqf_any 104).1 W ent_eqTbl (R1 := tblR S1 W) (R2 := tblR S2 W) (fun _ _ h => by rcases h with h | h <;> exact h.one) (h1.ext hx) (h2.ext hx) (by have := hs.tabs; omega) (fun t u1 u2 hm r1 r2 _ _ W2 hx2 => eqTbl_any W2 (r1.ext hx2) (r2.ext hx2) (hs.checks t hm) (hs.cols t hm) (hs.keys t hm) (hs.kcols t hm))
 have hx2 : Xk.Ext w ((w.alloc (.cells #[v1] 25)).alloc (.cells #[v2] 25)) := Xk.xt
 have HX := Lib.hid hx2
 clear h1 h2 hs hx2
 go_enter Tryz.func38, Tryz.ntmps38
 go_wp2_with fail
 refine (HI.out _ HX.out).mono ?_
 rintro e w' ⟨rfl, hx⟩
 go_wp2_with fail
 go_ret
 exact ⟨rfl, Xk.Ext.trans HX.out hx⟩
end Go.Proofs.YtlpcdpkgnfdpeaaGreatDoor
namespace Go
theorem run_copy_all {P : Program} (w : World) (dT sT ty elem : TypeId) (g n dCap sCap size : Nat) (a : Addr) (cur : Array Value) (t : TypeId) (cs : List Value)
  (hu : P.underlying dT = some (.slice elem)) (hs : (P.info? elem).map (·.size) = some size)
  (hg : w.heap[g]? = some (.cells cur t (0, 0))) (hn : cs.length = n * size) (hcur : cur.size = n * size)
  (hsrc : ∀ j v, cs[j]? = some v → w.cell? (a.add j) = some v) (h1 : ∀ v ∈ cs, v.oneCell' = true) :
  (Builtin.copy_ #[dT, sT] ty #[.slice (some ⟨g, 0, none⟩) n dCap, .slice (some a) n sCap]).run P w = .ok (goInt n) (w.setRow g cs.toArray) := by
 have hl := run_loadCells_list (P := P) w a cs hsrc
 have hst := run_storeCells_at P g 0 t cs 0 cur w hg (by omega) h1
 have hr : (cur.toList.take (0 + 0) ++ cs ++ cur.toList.drop (0 + 0 + cs.length)).toArray = cs.toArray := by
  rw [List.drop_eq_nil_of_le (by simp; omega)]; simp
 rw [hr] at hst
 cases hq : P.info? elem with
 | none => simp [hq] at hs
 | some i =>
  have hi : i.size = size := by simpa [hq] using hs
  have hm : Nat.min n n = n := Nat.min_self n
  simp [Builtin.copy_, run_underlying hu, Builtin.lenOf, Builtin.firstCells, sizeOf, typeInfo, hq, hi, hm, ← hn, hl, hst]
end Go
namespace Go.Proofs.YtlpcdpkgnfdpeaaGreatDoor
open Go.RowKit
def newCols (B n : Nat) (v : Value) (W : World) : Prop := ∃ g, v = .slice (some ⟨g, 0, none⟩) n n ∧ B ≤ g ∧ ∃ c, W.heap[g]? = some (.cells c 51) ∧ c.size = n * 3
def newTab (B : Nat) (v : Value) (W : World) : Prop := ∃ g, v = .pointer (some ⟨g, 0, none⟩) ∧ B ≤ g ∧ W.heap[g]? = some (.cells #[.string ⟨#[]⟩, nilS, nilS, nilS] 33)
theorem newCols.ext {B n : Nat} : ∀ v w w', Xk.Ext w w' → newCols B n v w → newCols B n v w' := by
 rintro v w w' hx ⟨g, rfl, hg, c, hc, hn⟩
 exact ⟨g, rfl, hg, c, (hx.block g (Array.getElem?_eq_some_iff.1 hc).1).trans hc, hn⟩
theorem newTab.ext {B : Nat} : ∀ v w w', Xk.Ext w w' → newTab B v w → newTab B v w' := by
 rintro v w w' hx ⟨g, rfl, hg, hc⟩
 exact ⟨g, rfl, hg, (hx.block g (Array.getElem?_eq_some_iff.1 hc).1).trans hc⟩
theorem cloneI_any {S : Nat → Prop} {l : List Nat} {v : Value} (W : World) (h : SlcAt S W 1 intR l v) (hl : l.length ≤ 1000) : Calls Tryz.prog 133 #[v] W fun e w' => ∃ v', e = .returned v' ∧ SlcAt (fun b => W.heap.size ≤ b) w' 1 intR l v' ∧ Xk.Ext W w' := by
 obtain ⟨p, c, rfl⟩ := h.len
 by_cases hp : 0 < l.length
 ·obtain ⟨g, rfl⟩ := h.root hp
  refine (Tryz.slices_Clone_int g 0 l.length c (l.map fun n : Nat => (n : Int)) W (by simp) (by omega) (fun j hj => ?_)).mono ?_
  ·rw [List.length_map] at hj
   rw [Nat.zero_add, slc_cell1 (f := fun n : Nat => Value.int .i64 n) h j hj, List.getD_eq_getElem?_getD, List.getElem?_map, List.getElem?_eq_getElem hj]
   rfl
  ·rintro e w' ⟨v', rfl, ho, -, hx⟩
   refine ⟨v', rfl, own_slc1 (f := fun n : Nat => Value.int .i64 n) (e := 3) ?_ hp, hx⟩
   rw [List.take_of_length_le (by simp), List.map_map] at ho
   exact ho
 ·have h0 : l = [] := List.eq_nil_of_length_eq_zero (by omega)
  subst h0
  rcases h with ⟨-, h⟩ | ⟨g, c', us, h1, h2, h3, -⟩
  ·cases h
   exact (Tryz.slices_Clone_int_nil 0 0 W).mono fun e w' ⟨he, hw⟩ => ⟨_, he, SlcAt.nil _ _ _ _, by rw [hw]; exact Below.refl _ _⟩
  ·simp at h3
def colsC (l : P13.Cols) : List Value := l.flatMap fun c => [bs c.1, .int .i64 c.2.1, .bool c.2.2]
theorem colsC_len (l : P13.Cols) : (colsC l).length = l.length * 3 := by
 induction l with
 | nil => rfl
 | cons c l ih => rw [colsC, List.flatMap_cons, List.length_append, ← colsC, ih, List.length_cons]; simp; omega
theorem colsC_one (l : P13.Cols) : ∀ u ∈ colsC l, u.oneCell' = true := fun u hu => by
 obtain ⟨c, -, hu⟩ := List.mem_flatMap.1 hu
 simp only [List.mem_cons, List.not_mem_nil, or_false] at hu
 rcases hu with rfl | rfl | rfl <;> rfl
theorem colsC_us : ∀ {l : P13.Cols} {us : List (List Value)}, us.length = l.length → (∀ (j : Nat) x u, l[j]? = some x → us[j]? = some u → colR x u) → us.flatten = colsC l
 | [], us, h, _ => by rw [List.eq_nil_of_length_eq_zero h]; rfl
 | c :: l, [], h, _ => by simp at h
 | c :: l, u :: us, h, hr => by
  have := hr 0 c u rfl rfl
  rw [List.flatten_cons, colsC_us (by simpa using h) (fun j x u hx hu => hr (j + 1) x u (by simpa using hx) (by simpa using hu)), this]
  rfl
theorem colCells {S : Nat → Prop} {w : World} {l : P13.Cols} {g n c : Nat} (h : SlcAt S w 3 colR l (.slice (some ⟨g, 0, none⟩) n c)) : w.rangeAt g 0 (colsC l) := by
 rcases h with ⟨-, h⟩ | ⟨g', c', us, h1, h2, h3, h4, h5, h6, h7, h8, h9⟩
 ·cases h
 ·cases h1
  rwa [colsC_us h5 h9] at h8
theorem own_cols {S : Nat → Prop} {w : World} {l : P13.Cols} {g : Nat} (h : w.heap[g]? = some (.cells (colsC l).toArray 51)) (hS : S g) (hl : l.length ≤ 1000) (hp : 0 < l.length) : Own S 51 3 (fun _ _ => colR) l (.slice (some ⟨g, 0, none⟩) l.length l.length) w := by
 refine ⟨l.map fun c => [bs c.1, .int .i64 c.2.1, .bool c.2.2], fun e => by rw [e] at hp; simp at hp, ?_, fun b hb => ?_, by simp, fun u hu => ?_, fun j x u hx hu => ?_⟩
 ·have e : (l.map fun c => [bs c.1, .int .i64 c.2.1, .bool c.2.2]).flatten = colsC l := by rw [colsC, List.flatMap_def]
  rw [e]
  refine ⟨colsC_len l, .inr ⟨g, l.length, (colsC l).toArray, rfl, Nat.zero_le _, h, Nat.le_refl _, Nat.le_trans hl (by decide), by simp [colsC_len], ?_⟩⟩
  exact List.take_of_length_le (by simp [colsC_len])
 ·cases hb; exact hS
 ·obtain ⟨c, -, rfl⟩ := List.mem_map.1 hu; rfl
 ·rw [List.getElem?_map, hx] at hu; exact (Option.some.inj hu).symm
theorem tableOf_any {S : Nat → Prop} {t : P13.Tb} {u : List Value} (w : World) (h : tblR S w t u) (hq : t.checks = []) (hc : t.cols.length ≤ 1000) (hcp : 0 < t.cols.length) (hk : t.keys.length ≤ 1000) (hkc : ∀ k ∈ t.keys, k.cols.length ≤ 1000) :
  Calls Tryz.prog 60 #[.agg u.toArray] w fun e w' => (∃ u', e = .returned (.agg u'.toArray) ∧ u'.length = 4 ∧ otabR (fun b => w.heap.size ≤ b) w' t u') ∧ Xk.Ext w w' := by
 obtain ⟨tc, tk, tq, rfl, h1, h2, h3⟩ := h
 have hq' := hq
 obtain ⟨p1, c1, rfl⟩ := h1.len
 obtain ⟨g1, rfl⟩ := h1.root hcp
 obtain ⟨p2, c2, rfl⟩ := h2.len
 obtain ⟨p3, c3, rfl⟩ := h3.len
 have hg1 : g1 < w.heap.size := by
  obtain ⟨-, -, he⟩ := h1.elem
  obtain ⟨u, hu, hl, hr⟩ := he 0 _ (List.getElem?_eq_getElem hcp)
  have hu' : u = [bs _, .int .i64 _, .bool _] := hu
  subst hu'
  exact World.block_lt_of_cell? _ _ (hr 0 _ rfl)
 have HC := Lib.hid (colCells h1)
 have H2 := Lib.hid h2
 clear h1 h2 h3
 rw [hq]
 obtain ⟨i0, hi, hz0, hz1, hz2⟩ := infoParts Tryz.infoCol
 have Hi := Lib.hid hi
 have Hz0 := Lib.hid hz0
 have Hz1 := Lib.hid hz1
 have Hz2 := Lib.hid hz2
 clear hi hz0 hz1 hz2
 go_enter Tryz.func60, Tryz.ntmps60
 go_upto_region 1 with fail
 have HXW : Hid (Xk.Ext w ((w.alloc (.cells #[bs t.name, .slice (some ⟨g1, 0, none⟩) t.cols.length c1, .slice p2 t.keys.length c2, .slice p3 0 c3] 33)).alloc (.cells #[.string ⟨#[]⟩, nilS, nilS, nilS] 33))) := Lib.hid (Xk.Ext.trans (extA _ _) (extA _ _))
 have hb0 := ((extA _ (.cells #[.string ⟨#[]⟩, nilS, nilS, nilS] 33)).block w.heap.size (by simp only [World.size_alloc]; omega)).trans (heap_new w (.cells #[bs t.name, .slice (some ⟨g1, 0, none⟩) t.cols.length c1, .slice p2 t.keys.length c2, .slice p3 0 c3] 33))
 have hb1 := heap_new (w.alloc (.cells #[bs t.name, .slice (some ⟨g1, 0, none⟩) t.cols.length c1, .slice p2 t.keys.length c2, .slice p3 0 c3] 33)) (.cells #[.string ⟨#[]⟩, nilS, nilS, nilS] 33)
 rw [World.size_alloc] at hb1
 generalize ((w.alloc (.cells #[bs t.name, .slice (some ⟨g1, 0, none⟩) t.cols.length c1, .slice p2 t.keys.length c2, .slice p3 0 c3] 33)).alloc (.cells #[.string ⟨#[]⟩, nilS, nilS, nilS] 33)) = w2 at *
 have k0 : w2.cell? ⟨w.heap.size, 0, none⟩ = some (bs t.name) := by simp [World.cell?, hb0]
 have k1 : w2.cell? ⟨w.heap.size, 1, none⟩ = some (.slice (some ⟨g1, 0, none⟩) t.cols.length c1) := by simp [World.cell?, hb0]
 have l0 : w.heap.size < w2.heap.size := World.block_lt_of_cell? _ _ k0
 have l01 : w.heap.size + 1 < w2.heap.size := (Array.getElem?_eq_some_iff.1 hb1).1
 refine Xk.wp_region_rel' 8 [(5, newCols w2.heap.size t.cols.length), (7, newTab w2.heap.size)] ⟨fun v w w' hx h => newCols.ext v w w' hx h, fun v w w' hx h => newTab.ext v w w' hx h, trivial⟩ (by kernel_rfl) (by kernel_rfl) ?_
 simp only [List.take_succ_cons, List.take_zero, List.drop_succ_cons, List.drop_zero]
 iterate 5 (refine Xs.k2 ?_)
 refine Xk.rel_make (by rfl) (by rfl) (fun p hp => ?_) (fun x K hK => ?_)
 ·go_simp
  have hr := run_make (P := Tryz.prog) (Xk.exw w2 p) 29 51 i0 _ Tryz.underlying29 Hi.out Hz0.out .i64 .i64 t.cols.length t.cols.length (by omega) (Int.le_refl _) (by rw [Hz2.out]; omega) (by omega)
  simp only [Int.toNat_natCast] at hr
  rw [hr]
  exact ⟨extA _ _, ⟨(Xk.exw w2 p).heap.size, rfl, (show Xk.Ext w2 (Xk.exw w2 p) from Xk.xt).size, _, heap_new _ _, by rw [size_madeCells, Hz1.out]⟩⟩
 go_simp
 refine hK _ ?_
 clear hK K
 refine Xk.rel_det (Xk.wanted_none (by rfl)) (by rfl) (fun K hK => ⟨.agg #[bs t.name, x, nilS, nilS], fun p hp => ?_, ?_⟩)
 ·obtain ⟨g, rfl, -⟩ : newCols _ _ x _ := Xk.facts_head hp (by kernel_rfl)
  clear hp hK
  go_simp
  exact ⟨rfl, rfl⟩
 go_simp
 refine hK _ ?_
 clear hK K
 refine Xk.rel_make (by rfl) (by rfl) (fun p hp => ?_) (fun y K hK => ?_)
 ·go_simp
  exact ⟨extA _ _, ⟨w2.heap.size + p.os.size, rfl, Nat.le_add_right _ _, by have := heap_new (Xk.exw w2 p) (.cells #[.string ⟨#[]⟩, nilS, nilS, nilS] 33); simpa using this⟩⟩
 go_simp
 refine hK _ ?_
 clear hK K
 refine Xk.rel_nil fun p hp => ?_
 simp only [Xk.factsAll] at hp
 obtain ⟨⟨g7, rfl, hg7, hc7⟩, ⟨g5, rfl, hg5, c5, hc5, hn5⟩, -⟩ := hp
 have hx3 : Xk.Ext w2 (Xk.exw w2.drew p) := Xk.xt
 generalize Xk.exw w2.drew p = w3 at *
 have h57 : g5 ≠ g7 := fun e => by
  subst e
  rw [hc5] at hc7
  injection (Option.some.inj hc7) with h1 h2
  exact absurd h2 (by decide)
 have hb3 := (hx3.block _ l0).trans hb0
 have hne : w.heap.size ≠ g7 := fun e => by rw [← e] at hg7; omega
 have hxw : Xk.Ext w w3 := Xk.Ext.trans (Xk.Ext.trans HXW.out (Below.refl _ _)) hx3
 have HX3 := Lib.hid hxw
 have H5 := Lib.hid hc5
 clear hc5 k0 k1 hxw
 go_upto_region 3 with (refine pw hc7 ?_; intro w4 hp4; have k1 : w4.cell? ⟨w.heap.size, 1, none⟩ = some (.slice (some ⟨g1, 0, none⟩) t.cols.length c1) := (by rw [World.cell?_of_block (hp4.rest _ hne)]; simp [World.cell?, hb3]); have k7 : w4.cell? ⟨g7, 1, none⟩ = some (.slice (some ⟨g5, 0, none⟩) t.cols.length t.cols.length) := (by simp [World.cell?, hp4.blk]); have m0 := World.block_lt_of_cell? _ _ k1; have m7 := World.block_lt_of_cell? _ _ k7; have HP4 := Lib.hid hp4; have hrun := run_copy_all (P := Tryz.prog) w4 29 29 3 51 g5 t.cols.length t.cols.length c1 3 ⟨g1, 0, none⟩ c5 51 (colsC t.cols) Tryz.underlying29 (by kernel_rfl) ((hp4.rest g5 h57).trans H5.out) (colsC_len _) hn5 (fun j v hj => by rw [Xo.addr_add]; exact range_same HC.out ((hp4.rest g1 (by omega)).trans (HX3.out.block g1 hg1)) j v hj) (colsC_one _); clear hp4)
 obtain ⟨w5, hw5⟩ : ∃ w5, w5 = w4.setRow g5 (colsC t.cols).toArray := ⟨_, rfl⟩
 have hp5 : Puts g5 (colsC t.cols).toArray 51 w4 w5 := by
  rw [hw5]
  exact ⟨setRow_heap _ _ _ _ _ _ ((HP4.out.rest g5 h57).trans H5.out), fun b hb => setRow_other _ _ _ _ hb, by simp [World.setRow], rfl, rfl, rfl⟩
 rw [← hw5]
 have hs5 : w5.heap.size = w3.heap.size := by rw [hp5.size, HP4.out.size]
 have h7 : w5.heap[g7]? = some (.cells #[bs t.name, .slice (some ⟨g5, 0, none⟩) t.cols.length t.cols.length, nilS, nilS] 33) := (hp5.rest g7 (fun e => h57 e.symm)).trans HP4.out.blk
 have h0 : w5.heap[w.heap.size]? = some (.cells #[bs t.name, .slice (some ⟨g1, 0, none⟩) t.cols.length c1, .slice p2 t.keys.length c2, .slice p3 0 c3] 33) := (hp5.rest _ (by omega)).trans ((HP4.out.rest _ hne).trans hb3)
 have hx5 : Xk.Ext w w5 := puts_ext hp5 (puts_ext HP4.out HX3.out (by omega)) (by omega)
 have h01 : w5.heap[w.heap.size + 1]? = some (.cells #[.string ⟨#[]⟩, nilS, nilS, nilS] 33) := (hp5.rest _ (by omega)).trans ((HP4.out.rest _ (by omega)).trans ((hx3.block _ (by omega)).trans hb1))
 have H01 := Lib.hid h01
 have HX5 := Lib.hid hx5
 have H57 := Lib.hid h7
 have H50 := Lib.hid h0
 have HP5 := Lib.hid hp5.blk
 have k0 : w5.cell? ⟨w.heap.size, 2, none⟩ = some (.slice p2 t.keys.length c2) := by simp [World.cell?, h0]
 have k3 : w5.cell? ⟨w.heap.size, 3, none⟩ = some (.slice p3 0 c3) := by simp [World.cell?, h0]
 have l5 : w.heap.size < w5.heap.size := World.block_lt_of_cell? _ _ k0
 have l51 : w.heap.size + 1 < w5.heap.size := (Array.getElem?_eq_some_iff.1 h01).1
 have l7 : g7 < w5.heap.size := (Array.getElem?_eq_some_iff.1 h7).1
 have l55 : g5 < w5.heap.size := (Array.getElem?_eq_some_iff.1 hp5.blk).1
 clear hw5 hp5 HP4 HX3 H5 hb3 h7 h0 hx5 h01 hx3 hb1 hs5 HXW hn5 Hi Hz0 Hz1 Hz2 i0
 obtain ⟨i0, hi, hz0, hz1, hz2⟩ := infoParts Tryz.infoKey
 have Hi := Lib.hid hi
 have Hz0 := Lib.hid hz0
 have Hz1 := Lib.hid hz1
 have Hz2 := Lib.hid hz2
 clear hi hz0 hz1 hz2
 go_wp2_with fail
 go_loopw [23] (fun x wr => ∃ (q : Nat) (v : Value), q ≤ t.keys.length ∧ x = .int .i64 q ∧ Kept w5.heap.size [g7] w5 wr ∧ wr.heap[g7]? = some (.cells #[bs t.name, .slice (some ⟨g5, 0, none⟩) t.cols.length t.cols.length, v, nilS] 33) ∧ Own (fun b => w5.heap.size ≤ b) 100 4 kyR (t.keys.take q) v wr) (fun x _ => t.keys.length - (intOf x).toNat)
 case atStart => exact ⟨0, nilS, by omega, rfl, Kept.refl _ _ _, H57.out, Own.nil⟩
 case round =>
  obtain ⟨q, v, hq, rfl, hkp, hb7, ho⟩ := hrel
  have HKP := Lib.hid hkp
  have HO := Lib.hid ho
  have hws := hkp.size
  have HB7 := Lib.hid hb7
  by_cases hlt : q < t.keys.length
  ·obtain ⟨g2, rfl⟩ := H2.out.root (by omega)
   obtain ⟨-, -, he⟩ := H2.out.elem
   obtain ⟨u, hu, -, hr⟩ := he q _ (List.getElem?_eq_getElem hlt)
   obtain ⟨kv, rfl, hkv⟩ := hu
   obtain ⟨ps, cs, hvf⟩ := ho.form
   rw [List.length_take, Nat.min_eq_left hq] at hvf
   subst hvf
   obtain ⟨pk, ck, rfl⟩ := hkv.len
   have hg2 : g2 < w.heap.size := World.block_lt_of_cell? _ _ (hr 0 _ rfl)
   have hold : ∀ b, b < w.heap.size → wr.heap[b]? = w.heap[b]? := fun b hb => (hkp.block b (by omega) (by omega) (by simp; omega)).trans (HX5.out.block b hb)
   have HRJ := Lib.hid (range_same hr (hold g2 hg2))
   have hkl : t.keys[q].cols.length ≤ 1000 := hkc _ (List.getElem_mem hlt)
   have HGET := Lib.hid (List.getElem?_eq_getElem hlt)
   have HKV := Lib.hid (hkv.keep (w' := wr) (S' := fun b => b < w.heap.size) (fun b _ hb => hold b hb) (fun b _ hb => hb) (fun _ _ h => h))
   have hlb : (q : Int) < (t.keys.length : Int) := by omega
   have hwg : g2 < wr.heap.size := by omega
   clear hr he hkv hkp hb7 ho hold
   generalize t.keys[q] = k at *
   have HXA := Lib.hid (extA wr (.cells #[bs k.name, .slice pk k.cols.length ck, .bool k.uniq, .bool k.prim] 100))
   have HCL := Lib.hid (cloneI_any (wr.alloc (.cells #[bs k.name, .slice pk k.cols.length ck, .bool k.uniq, .bool k.prim] 100)) (HKV.out.extG HXA.out) hkl)
   go_wp2_with (refine wpList_load_mid rfl 100 _ rfl g2 (q * 4) rfl _ _ HRJ.out Tryz.underlying100 rfl (by kernel_rfl) ?_)
   refine HCL.out.mono ?_
   rintro e w6 ⟨v6, rfl, hs6, hx6⟩
   obtain ⟨p6, c6, rfl⟩ := hs6.len
   rw [World.size_alloc] at hs6
   have hx6' : Xk.Ext wr w6 := Xk.Ext.trans HXA.out hx6
   have hs6' := hx6.size
   rw [World.size_alloc] at hs6'
   have hb6 := (hx6.block wr.heap.size (by rw [World.size_alloc]; omega)).trans (heap_new wr _)
   have c61 : w6.cell? ⟨wr.heap.size, 1, none⟩ = some (.slice pk k.cols.length ck) := by simp [World.cell?, hb6]
   have f61 := frozen_of_row w6 wr.heap.size 1 _ _ hb6
   have HB6 := Lib.hid hb6
   have HS6 := Lib.hid hs6
   have HX6 := Lib.hid hx6'
   clear hb6 hs6 hx6 hx6'
   go_upto_region 7 with fail
   have hb77 := heap_setCell_same w6 wr.heap.size 1 _ _ (.slice p6 k.cols.length c6) HB6.out
   have hot7 : ∀ b, b ≠ wr.heap.size → (w6.setCell ⟨wr.heap.size, 1, none⟩ (.slice p6 k.cols.length c6)).heap[b]? = w6.heap[b]? := fun b hb => heap_setCell_other w6 ⟨wr.heap.size, 1, none⟩ b _ (fun e => hb (by simpa using e))
   have hsz7 : (w6.setCell ⟨wr.heap.size, 1, none⟩ (.slice p6 k.cols.length c6)).heap.size = w6.heap.size := World.size_setCell _ _ _
   have hx7 : Xk.Ext wr (w6.setCell ⟨wr.heap.size, 1, none⟩ (.slice p6 k.cols.length c6)) := HX6.out.setCell (p := ⟨wr.heap.size, 1, none⟩) (Nat.le_refl _) _
   generalize w6.setCell ⟨wr.heap.size, 1, none⟩ (.slice p6 k.cols.length c6) = w7 at *
   have hs7 := HS6.out.keep (w' := w7) (S' := fun b => wr.heap.size < b) (fun b hb _ => hot7 b (by omega)) (fun b hb _ => by omega) (fun _ _ h => h)
   have hg77 := (hx7.block g7 (by omega)).trans HB7.out
   have c7 : w7.cell? ⟨g7, 2, none⟩ = some (.slice ps q cs) := by simp [World.cell?, hg77]
   have f7 := frozen_of_row w7 g7 2 _ _ hg77
   obtain ⟨us, -, ho, hus, hu2, hu3, hu4⟩ := HO.out.keep stab_ky (w' := w7) (S' := fun b => w5.heap.size ≤ b) (fun b _ hl => hx7.block b hl) (fun b h _ => h)
   rw [List.length_take, Nat.min_eq_left hq] at ho
   have hown : ∀ b, (Value.slice ps q cs).ownBlock = some b → w5.heap.size ≤ b ∧ b < wr.heap.size := fun b hb => ⟨hus b hb, (HO.out.lt b hb).2⟩
   have HOW := Lib.hid hown
   have HOO := Lib.hid ho
   have HU4 := Lib.hid hu4
   have HS7 := Lib.hid hs7
   have HG77 := Lib.hid hg77
   have hxa7 := extA w7 (.cells #[bs k.name, .slice p6 k.cols.length c6, .bool k.uniq, .bool k.prim] 100)
   have HXA7 := Lib.hid hxa7
   have hkr : kyR (fun b => w5.heap.size ≤ b ∧ ¬ (Value.slice ps q cs).ownBlock = some b) w7 k [bs k.name, .slice p6 k.cols.length c6, .bool k.uniq, .bool k.prim] := ⟨_, rfl, hs7.keep (fun _ _ _ => rfl) (fun b hb _ => ⟨by omega, fun e => by have := (hown b e).2; omega⟩) (fun _ _ h => h)⟩
   have HKR := Lib.hid (stab_ky _ _ _ _ _ _ hkr (fun b _ hl => hxa7.block b hl) (fun b hb _ => hb))
   have hws7 := hx7.size
   have HX7 := Lib.hid hx7
   have l77 : g7 < w7.heap.size := by omega
   clear hown ho hu4 hs7 hg77 hxa7 hkr hot7 hx7 hsz7
   go_wp2_with (first | (refine lw hb77 Tryz.underlying100 ?_) | (at_builtin; go_loud (refine Xo.wpList_appb 0 rfl _ _ 30 rfl 100 i0 _ 4 48 Tryz.underlying30 Hi.out Hz0.out Hz1.out Hz2.out rfl (by decide) (.slice ps q cs) q us.flatten rfl (HOO.out.alloc _) w7.heap.size 0 1 1 [bs k.name, .slice p6 k.cols.length c6, .bool k.uniq, .bool k.prim] rfl (by decide) rfl (cells_list w7 _ _ rfl) (one_all (by kernel_rfl)) (by omega) (Nat.zero_le _) ?_); intro v' w8 ho8 hg8 hk8; obtain ⟨z8, cz8, rfl⟩ := ownForm ho8 (by omega); have h87 := (hg8.block g7 (by rw [World.size_alloc]; omega) (fun e => by have := (HOW.out _ e.symm).1; omega)).trans ((HXA7.out.block g7 l77).trans HG77.out); have c8 : w8.cell? ⟨g7, 2, none⟩ = some (.slice ps q cs) := (by simp [World.cell?, h87]); have f8 := frozen_of_row w8 g7 2 _ _ h87; have l8 := (Array.getElem?_eq_some_iff.1 h87).1; have HO8 := Lib.hid ho8; have HG8 := Lib.hid hg8; have HK8 := Lib.hid hk8; have H87 := Lib.hid h87; clear ho8 hg8 hk8 h87))
   case roundEnd =>
    refine ⟨⟨q + 1, .slice (some ⟨z8, 0, none⟩) (q + 1) cz8, by omega, by go_num, ?_, heap_setCell_same w8 g7 2 _ _ _ H87.out, ?_⟩, by simp [intOf]; omega⟩
    ·refine Kept.setCell (Kept.grown ((HKP.out.trans (Kept.of_ext HX7.out)).alloc _) HG8.out (fun b hb => (HOW.out b hb).1)) (.inr (.inl (by simp))) _ _
    ·have hp := Own.push (xs := t.keys.take q) (x := k) stab_ky hus (fun b hb => by rw [World.size_alloc] at hb; omega) hu2 hu3 (fun j x u hx hu => stab_ky _ _ _ _ _ _ (HU4.out j x u hx hu) (fun b hb hl => HXA7.out.block b hl) (fun b hb _ => hb)) HG8.out (by rw [List.length_take, Nat.min_eq_left hq]; exact HO8.out) HK8.out rfl HKR.out
     rw [show t.keys.take q ++ [k] = t.keys.take (q + 1) by rw [List.take_add_one, HGET.out]; rfl] at hp
     exact hp.keep stab_ky (fun b hb _ => heap_setCell_other w8 ⟨g7, 2, none⟩ b _ (fun e => by have e' : b = g7 := (by simpa using e); omega)) (fun b hb _ => hb)
  ·have hlb : ¬ (q : Int) < (t.keys.length : Int) := by omega
   obtain rfl : q = t.keys.length := by omega
   rw [List.take_length] at ho
   obtain ⟨ps, cs, rfl⟩ := ho.form
   have c7 : wr.cell? ⟨g7, 2, none⟩ = some (.slice ps t.keys.length cs) := by simp [World.cell?, hb7]
   have k3r : wr.cell? ⟨w.heap.size, 3, none⟩ = some (.slice p3 0 c3) := by rw [World.cell?_of_block (hkp.block _ l5 l5 (by simp; omega))]; exact k3
   have h01 := (hkp.block _ (by omega) (by omega) (by simp; omega)).trans H01.out
   have hxr : Xk.Ext w wr := ⟨hkp.os.trans HX5.out.os, hkp.tape.trans HX5.out.tape, hkp.output.trans HX5.out.output, Nat.le_trans HX5.out.size hkp.size, fun b hb => (hkp.block b (by omega) (by omega) (by simp; omega)).trans (HX5.out.block b hb)⟩
   have hot : otabR (fun b => w.heap.size + 1 < b) wr t [bs t.name, .slice (some ⟨g5, 0, none⟩) t.cols.length t.cols.length, .slice ps t.keys.length cs, nilS] :=
    ⟨hq', _, _, rfl, own_cols ((hkp.block _ l55 l55 (by simp; exact h57)).trans HP5.out) ⟨by omega, fun e => by have := (ho.lt _ e).1; omega⟩ hc hcp, ho.keep stab_ky (fun _ _ _ => rfl) (fun b hb _ => ⟨by omega, fun e => by simp [Value.ownBlock] at e; omega⟩)⟩
   have HOT := Lib.hid hot
   have HXR := Lib.hid hxr
   clear hkp ho hot hxr
   go_wp2_with fail
   go_loopw [41] (fun x w2 => x = .int .i64 0 ∧ w2 = wr) (fun _ _ => 0)
   case atStart => exact ⟨rfl, rfl⟩
   case round =>
    obtain ⟨rfl, h2⟩ := hrel
    subst h2
    go_wp2_with (first | (refine lw hb7 Tryz.underlying33 ?_) | (refine pw h01 ?_; intro wZ hpZ))
    exact bodyPost_ret (results_row rfl rfl hpZ.blk Tryz.underlying33 rfl (by kernel_rfl)) rfl ⟨⟨_, rfl, rfl, stab_otab _ _ _ _ _ _ HOT.out (fun b hb _ => hpZ.rest b (by omega)) (fun b hb _ => by omega)⟩, puts_ext hpZ HXR.out (by omega)⟩
theorem Tryz.infoTable : (Tryz.prog.info? 33).map (fun i => (i.zero, i.size, i.bytes)) = some (some (.agg #[.string ⟨#[]⟩, nilS, nilS, nilS]), 4, 88) := by kernel_rfl
def tabK (B : Nat) (t : P13.Tb) (v : Value) (W : World) : Prop := ∃ p1 n1 c1 p2 n2 c2, v = .agg #[bs t.name, .slice p1 n1 c1, .slice p2 n2 c2, nilS] ∧ otabR (fun b => B ≤ b) W t [bs t.name, .slice p1 n1 c1, .slice p2 n2 c2, nilS]
def tabN (B : Nat) (t : P13.Tb) (v : Value) (W : World) : Prop := ∃ g p1 n1 c1 p2 n2 c2, v = .slice (some ⟨g, 0, none⟩) 1 1 ∧ B ≤ g ∧ W.heap[g]? = some (.cells #[bs t.name, .slice p1 n1 c1, .slice p2 n2 c2, nilS] 33) ∧ otabR (fun b => B ≤ b) W t [bs t.name, .slice p1 n1 c1, .slice p2 n2 c2, nilS]
theorem otabR.ext {S : Nat → Prop} {w w' : World} {t : P13.Tb} {u : List Value} (h : otabR S w t u) (hx : Xk.Ext w w') : otabR S w' t u := stab_otab _ _ _ _ _ _ h (fun b _ hl => hx.block b hl) (fun b hb _ => hb)
theorem tabK.ext {B : Nat} {t : P13.Tb} : ∀ v w w', Xk.Ext w w' → tabK B t v w → tabK B t v w' := by
 rintro v w w' hx ⟨p1, n1, c1, p2, n2, c2, e, h⟩
 exact ⟨p1, n1, c1, p2, n2, c2, e, h.ext hx⟩
theorem tabK.mono {B B' : Nat} {t : P13.Tb} {v : Value} {W : World} (h : tabK B' t v W) (hb : B ≤ B') : tabK B t v W := by
 obtain ⟨p1, n1, c1, p2, n2, c2, e, h⟩ := h
 exact ⟨p1, n1, c1, p2, n2, c2, e, stab_otab _ _ _ _ _ _ h (fun _ _ _ => rfl) (fun b hb' _ => by omega)⟩
theorem tabN.ext {B : Nat} {t : P13.Tb} : ∀ v w w', Xk.Ext w w' → tabN B t v w → tabN B t v w' := by
 rintro v w w' hx ⟨g, p1, n1, c1, p2, n2, c2, e, hg, hc, h⟩
 exact ⟨g, p1, n1, c1, p2, n2, c2, e, hg, (hx.block g (Array.getElem?_eq_some_iff.1 hc).1).trans hc, h.ext hx⟩
theorem tableK_any {S : Nat → Prop} {t : P13.Tb} {u : List Value} (w : World) (h : tblR S w t u) (hq : t.checks = []) (hc : t.cols.length ≤ 1000) (hcp : 0 < t.cols.length) (hk : t.keys.length ≤ 1000) (hkc : ∀ k ∈ t.keys, k.cols.length ≤ 1000) :
  Calls Tryz.prog 60 #[.agg u.toArray] w fun e w' => ∃ v, e = .returned v ∧ Xk.Ext w w' ∧ tabK w.heap.size t v w' := by
 refine (tableOf_any w h hq hc hcp hk hkc).mono ?_
 rintro e w' ⟨⟨u', rfl, -, ho⟩, hx⟩
 obtain ⟨hq', tc, tk, rfl, h1, h2⟩ := ho
 obtain ⟨p1, c1, rfl⟩ := h1.form
 obtain ⟨p2, c2, rfl⟩ := h2.form
 exact ⟨_, rfl, hx, _, _, _, _, _, _, rfl, hq', _, _, rfl, h1, h2⟩
theorem OSch.push {B : Nat} {w w2 w' : World} {s : P13.Sch} {v v' : Value} {t : P13.Tb} {u : List Value} {κ : Nat → Nat} {us : List (List Value)} (hB : B ≤ w.heap.size) (hw : w.heap.size ≤ w2.heap.size) (h1 : ∀ b, v.ownBlock = some b → B ≤ b ∧ b < w.heap.size) (h2 : us.length = s.length) (h3 : ∀ u ∈ us, u.length = 4)
  (h4 : ∀ (j : Nat) x u, s.zipIdx[j]? = some x → us[j]? = some u → otR κ (fun b => B ≤ b ∧ ¬ v.ownBlock = some b) w x u) (hx : ∀ b, b < w.heap.size → w2.heap[b]? = w.heap[b]?) (hg : w2.grownBy w' v.ownBlock) (ho : w'.ownsRow 0 33 4 v' (s.length + 1) (us.flatten ++ u))
  (hk : ∀ b, v'.ownBlock = some b → v.ownBlock = some b ∨ w2.heap.size ≤ b) (hu : u.length = 4) (ht : otabR (fun b => w.heap.size ≤ b) w2 t u) : OSch B w' (s ++ [t]) v' := by
 refine ⟨fun b => if b < w.heap.size then κ b else s.length + 1, ?_⟩
 rw [List.zipIdx_append]
 refine Own.push (w := w2) (stab_ot _) (fun b hb => (h1 b hb).1) (fun b hb => by omega) (by simpa using h2) h3 (fun j x u hx' hu => ?_) hg (by simpa using ho) hk hu ?_
 ·exact stab_otab _ _ _ _ _ _ (h4 j x u hx' hu) (fun b _ hl => hx b hl) (fun b hb hl => ⟨hb.1, by simp only [hl, if_true]; exact hb.2⟩)
 ·refine stab_otab _ _ _ _ _ _ ht (fun _ _ _ => rfl) (fun b hb _ => ⟨⟨by omega, fun e => by have := (h1 b e).2; omega⟩, ?_⟩)
  simp only [show ¬ b < w.heap.size by omega, if_false]
  simp
theorem new3 (w : World) (o1 o2 o3 : Obj) : ∃ W, W = ((w.alloc o1).alloc o2).alloc o3 ∧ W.heap[w.heap.size]? = some o1 ∧ W.heap[w.heap.size + 1]? = some o2 ∧ W.heap[w.heap.size + 2]? = some o3 ∧ Xk.Ext w W ∧ W.heap.size = w.heap.size + 3 := by
 have a := heap_new w o1
 have b := heap_new (w.alloc o1) o2
 have c := heap_new ((w.alloc o1).alloc o2) o3
 have d := (extA (w.alloc o1) o2).block w.heap.size (by rw [World.size_alloc]; omega)
 have e := (extA ((w.alloc o1).alloc o2) o3).block w.heap.size (by simp only [World.size_alloc]; omega)
 have f := (extA ((w.alloc o1).alloc o2) o3).block (w.heap.size + 1) (by simp only [World.size_alloc]; omega)
 simp only [World.size_alloc] at b c
 exact ⟨_, rfl, e.trans (d.trans a), f.trans b, c, Xk.Ext.trans (extA _ _) (Xk.Ext.trans (extA _ _) (extA _ _)), by simp only [World.size_alloc]⟩
theorem copy_any {S : Nat → Prop} {s : P13.Sch} {v : Value} (w : World) (h : SchAt S w s v) (hs : Low s) (hcp : ∀ t ∈ s, 0 < t.cols.length) :
  Calls Tryz.prog 26 #[.agg #[v]] w fun e w' => ∃ v', e = .returned (.agg #[v']) ∧ OSch w.heap.size w' s v' ∧ Xk.Ext w w' := by
 have hsl := hs.tabs
 obtain ⟨p, c, rfl⟩ := h.len
 have HS := Lib.hid h
 have HL := Lib.hid hs
 have HCP := Lib.hid hcp
 obtain ⟨i0, hi, hz0, hz1, hz2⟩ := infoParts Tryz.infoTable
 have Hi := Lib.hid hi
 have Hz0 := Lib.hid hz0
 have Hz1 := Lib.hid hz1
 have Hz2 := Lib.hid hz2
 clear hi hz0 hz1 hz2
 clear h hs hcp
 go_enter Tryz.func26, Tryz.ntmps26
 go_upto_region 2 with fail
 obtain ⟨w1, hw1, h0, h1, h2, hx1, hz1⟩ := new3 w (.cells #[.slice p s.length c] 25) (.cells #[nilS] 25) (.cells #[nilS] 25)
 rw [← hw1]
 clear hw1
 have k0 : w1.cell? ⟨w.heap.size, 0, none⟩ = some (.slice p s.length c) := by simp [World.cell?, h0]
 have l0 : w.heap.size < w1.heap.size := by omega
 have HX1 := Lib.hid hx1
 have H1 := Lib.hid h1
 have H2 := Lib.hid h2
 have HZ1 := Lib.hid hz1
 clear h0 hx1 h1 h2 hz1
 go_wp2_with fail
 go_loopw [9] (fun x wr => ∃ (q : Nat) (v : Value), q ≤ s.length ∧ x = .int .i64 q ∧ Kept w1.heap.size [w.heap.size + 2] w1 wr ∧ wr.heap[w.heap.size + 2]? = some (.cells #[v] 25) ∧ OSch w1.heap.size wr (s.take q) v) (fun x _ => s.length - (intOf x).toNat)
 case atStart => exact ⟨0, nilS, by omega, rfl, Kept.refl _ _ _, H2.out, OSch.nil _ _⟩
 case round =>
  obtain ⟨q, v, hq, rfl, hkp, hb2, ho⟩ := hrel
  have hz1 := HZ1.out
  have hws := hkp.size
  have hold : ∀ b, b < w.heap.size → wr.heap[b]? = w.heap[b]? := fun b hb => (hkp.block b (by omega) (by omega) (by simp; omega)).trans (HX1.out.block b hb)
  by_cases hlt : q < s.length
  ·obtain ⟨g, rfl⟩ := HS.out.root (by omega)
   obtain ⟨-, -, he⟩ := HS.out.elem
   obtain ⟨u, hu, -, hr⟩ := he q _ (List.getElem?_eq_getElem hlt)
   have hm := List.getElem_mem hlt
   have hq1 := HL.out.checks _ hm
   have hq2 := HL.out.cols _ hm
   have hq3 := HL.out.keys _ hm
   have hq4 := HL.out.kcols _ hm
   have hq5 := HCP.out _ hm
   have HGET := Lib.hid (List.getElem?_eq_getElem hlt)
   obtain ⟨κ, us, -, how, hus, hu2, hu3, hu4⟩ := ho
   rw [List.length_zipIdx, List.length_take, Nat.min_eq_left hq] at how
   obtain ⟨ps, cs, rfl⟩ := own_slice how
   have hub := fun b hb => (how.lt b hb).2
   have HU := Lib.hid (stab_tbl _ (fun b => b < w.heap.size) _ wr _ _ hu (fun b _ hl => hold b hl) (fun b _ hl => hl))
   obtain ⟨tc, tk, tq, rfl, a1, a2, a3⟩ := hu
   obtain ⟨p1, c1, rfl⟩ := a1.len
   obtain ⟨p2, c2, rfl⟩ := a2.len
   obtain ⟨p3, c3, rfl⟩ : ∃ p3 c3, tq = .slice p3 0 c3 := by rw [hq1] at a3; exact a3.len
   have hg2 : g < w.heap.size := World.block_lt_of_cell? _ _ (hr 0 _ rfl)
   have HRJ := Lib.hid (range_same hr (hold g hg2))
   have hlb : (q : Int) < (s.length : Int) := by omega
   have hwg : g < wr.heap.size := by omega
   have HKP := Lib.hid hkp
   have HB2 := Lib.hid hb2
   have HOW := Lib.hid how
   have HU4 := Lib.hid hu4
   clear hr he a1 a2 a3 hkp hb2 how hold hu4
   have HQ1 := Lib.hid hq1
   clear hq1
   generalize s[q] = t at *
   go_upto_region 5 with (refine wpList_load_mid rfl 33 _ rfl g (q * 4) rfl _ _ HRJ.out Tryz.underlying33 rfl (by kernel_rfl) ?_)
   have hx5 := extA wr (.cells #[bs t.name, .slice p1 t.cols.length c1, .slice p2 t.keys.length c2, .slice p3 0 c3] 33)
   have hb5 := heap_new wr (.cells #[bs t.name, .slice p1 t.cols.length c1, .slice p2 t.keys.length c2, .slice p3 0 c3] 33)
   generalize wr.alloc (.cells #[bs t.name, .slice p1 t.cols.length c1, .slice p2 t.keys.length c2, .slice p3 0 c3] 33) = w5 at *
   have hb52 := (hx5.block _ (by omega)).trans HB2.out
   have cc2 : w5.cell? ⟨w.heap.size + 2, 0, none⟩ = some (.slice ps q cs) := by simp [World.cell?, hb52]
   have l5 := hx5.size
   have hb5' : w5.drew.heap[wr.heap.size]? = _ := hb5
   have l5' : wr.heap.size < w5.drew.heap.size := (Array.getElem?_eq_some_iff.1 hb5).1
   have hx5' := hx5
   have l52 : w.heap.size + 2 < w5.heap.size := by omega
   have HT := Lib.hid fun W (hx : Xk.Ext w5 W) => tableK_any W (tblR.ext (tblR.ext HU.out hx5) hx) HQ1.out hq2 hq5 hq3 hq4
   clear hx5' hq2 hq3 hq4 hq5
   refine Xk.wp_region_rel' 5 [(3, tabK w5.heap.size t), (4, tabN w5.heap.size t)] ⟨tabK.ext, tabN.ext, trivial⟩ (by kernel_rfl) (by kernel_rfl) ?_
   simp only [List.take_succ_cons, List.take_zero, List.drop_succ_cons, List.drop_zero]
   iterate 2 (refine Xs.k2 ?_)
   refine Xk.ld 33 wr.heap.size 0 [bs t.name, .slice p1 t.cols.length c1, .slice p2 t.keys.length c2, .slice p3 0 c3] Tryz.underlying33 (fun j v hj => by rw [Nat.zero_add]; simpa [World.cell?, hb5'] using hj) l5' ?_
   refine Xk.rel_make (by rfl) (by rfl) (fun p hp => ?_) (fun x K hK => ?_)
   ·go_simp
    exact (HT.out _ (Xk.ext_exw w5 p)).mono fun e w' ⟨v, he, hx, ht⟩ => ⟨v, he, hx, ht.mono (Xk.ext_exw w5 p).size⟩
   go_simp
   refine hK _ ?_
   clear hK K
   refine Xk.rel_make (by rfl) (by rfl) (fun p hp => ?_) (fun y K hK => ?_)
   ·obtain ⟨p1', n1', c1', p2', n2', c2', rfl, hot⟩ := Xk.facts_head hp (by kernel_rfl)
    go_simp
    exact ⟨extA _ _, _, _, _, _, _, _, _, rfl, Nat.le_add_right _ _, by have := heap_new (Xk.exw w5 p) (.cells #[bs t.name, .slice p1' n1' c1', .slice p2' n2' c2', nilS] 33); rwa [Xk.exw_size] at this, (by have h := hot; rw [Xk.exw_drew] at h; exact h.ext (extA _ _))⟩
   go_simp
   refine hK _ ?_
   clear hK K
   refine Xk.rel_nil fun p hp => ?_
   simp only [Xk.factsAll] at hp
   obtain ⟨⟨g', p1', n1', c1', p2', n2', c2', rfl, hg', hc', hot⟩, -⟩ := hp
   have hx6 : Xk.Ext w5 (Xk.exw w5.drew p) := Xk.xt
   generalize Xk.exw w5.drew p = w6 at *
   have hx56 : Xk.Ext wr w6 := Xk.Ext.trans hx5 hx6
   have h62 := (hx6.block _ l52).trans hb52
   have c6 : w6.cell? ⟨w.heap.size + 2, 0, none⟩ = some (.slice ps q cs) := by simp [World.cell?, h62]
   have l6 := hx56.size
   have HX6 := Lib.hid hx6
   have HX56 := Lib.hid hx56
   have H62 := Lib.hid h62
   have HC6 := Lib.hid hc'
   have HOT := Lib.hid hot
   have HUS := Lib.hid hus
   have HUB := Lib.hid hub
   have l62 : w.heap.size + 2 < w6.heap.size := by have := hx6.size; omega
   clear hx5 hb5 hb52 cc2 hb5' l5' hc' hot hx6 hx56 hus hub h62
   go_wp2_with (at_builtin; go_loud (refine Xo.wpList_appb 0 rfl _ _ 23 rfl 33 i0 _ 4 88 Tryz.underlying23 Hi.out Hz0.out Hz1.out Hz2.out rfl (by decide) (.slice ps q cs) q us.flatten rfl (own_same HOW.out (fun b hb => HX56.out.block b (HUB.out b hb))) g' 0 1 1 [bs t.name, .slice p1' n1' c1', .slice p2' n2' c2', nilS] rfl (by decide) rfl (fun j v hj => by rw [Nat.zero_add]; simpa [World.cell?, HC6.out] using hj) (one_all (by kernel_rfl)) (by omega) (Nat.zero_le _) ?_); intro v' w8 ho8 hg8 hk8; obtain ⟨z8, cz8, rfl⟩ := ownForm ho8 (by omega); have h87 := (hg8.block (w.heap.size + 2) l62 (fun e => by have := HUS.out _ e.symm; omega)).trans H62.out; have c8 : w8.cell? ⟨w.heap.size + 2, 0, none⟩ = some (.slice ps q cs) := (by simp [World.cell?, h87]); have f8 := frozen_of_row w8 (w.heap.size + 2) 0 _ _ h87; have l8 := (Array.getElem?_eq_some_iff.1 h87).1; have HO8 := Lib.hid ho8; have HG8 := Lib.hid hg8; have HK8 := Lib.hid hk8; have H87 := Lib.hid h87; clear ho8 hg8 hk8 h87)
   case roundEnd =>
    refine ⟨⟨q + 1, .slice (some ⟨z8, 0, none⟩) (q + 1) cz8, by omega, by go_num, ?_, heap_setCell_same w8 (w.heap.size + 2) 0 _ _ _ H87.out, ?_⟩, by simp [intOf]; omega⟩
    ·exact Kept.setCell (Kept.grown (HKP.out.trans (Kept.of_ext HX56.out)) HG8.out (fun b hb => HUS.out b hb)) (.inr (.inl (by simp))) _ _
    ·have hp := OSch.push (w := wr) (w2 := w6) (s := s.take q) (t := t) (B := w1.heap.size) (by omega) HX56.out.size (fun b hb => ⟨HUS.out b hb, HUB.out b hb⟩) (by simpa using hu2) hu3 HU4.out (fun b hb => HX56.out.block b hb) HG8.out (by rw [List.length_take, Nat.min_eq_left hq]; exact HO8.out) HK8.out rfl (stab_otab _ _ _ _ _ _ HOT.out (fun _ _ _ => rfl) (fun b hb _ => by omega))
     rw [show s.take q ++ [t] = s.take (q + 1) by rw [List.take_add_one, HGET.out]; rfl] at hp
     exact hp.keep (fun b hb _ => heap_setCell_other w8 ⟨w.heap.size + 2, 0, none⟩ b _ (fun e => by have e' : b = w.heap.size + 2 := (by simpa using e); omega)) (Nat.le_refl _)
  ·have hlb : ¬ (q : Int) < (s.length : Int) := by omega
   obtain rfl : q = s.length := by omega
   rw [List.take_length] at ho
   have h1r := (hkp.block _ (by omega) (by omega) (by simp)).trans H1.out
   have hxr : Xk.Ext w wr := ⟨hkp.os.trans HX1.out.os, hkp.tape.trans HX1.out.tape, hkp.output.trans HX1.out.output, Nat.le_trans HX1.out.size hkp.size, hold⟩
   have HO := Lib.hid ho
   have HXR := Lib.hid hxr
   obtain ⟨ps, n8, cs, rfl⟩ : ∃ p n c, v = .slice p n c := by
    obtain ⟨κ, us, -, how, -⟩ := ho
    obtain ⟨p, c, rfl⟩ := own_slice how
    exact ⟨_, _, _, rfl⟩
   clear hkp ho hxr hold
   go_wp2_with (first | (refine lw hb2 Tryz.underlying25 ?_) | (refine pw h1r ?_; intro wZ hpZ))
   exact bodyPost_ret (results_row rfl rfl hpZ.blk Tryz.underlying25 rfl (by kernel_rfl)) rfl ⟨_, rfl, HO.out.keep (fun b hb _ => hpZ.rest b (by omega)) (by omega), puts_ext hpZ HXR.out (by omega)⟩
def SchPost (B : Nat) (w : World) (res : Except Int P13.Sch) (e : Ending) (w' : World) : Prop :=
 (∃ p n c, e = .returned (.tuple #[.agg #[.slice p n c], .int .i64 (match res with | .error k => k | .ok _ => 0)]) ∧ ∀ s', res = .ok s' → SchAt (fun b => B ≤ b) w' s' (.slice p n c)) ∧ Kept B [] w w'
theorem results_row1 {P : Program} {fn : Func} {k j : Tmp} {t : TypeId} (h : fn.results = #[.cell k t, .tmp j]) {tmps : Array Value} {w : World} {g : Nat} {cs : Array Value} {T : TypeId} {fr : Nat × Nat} {d : TypeDesc} {v : Value}
  (ht : tmps.getD k undef = .pointer (some ⟨g, 0, none⟩)) (hv : tmps.getD j undef = v) (hg : w.heap[g]? = some (.cells cs T fr)) (hu : P.underlying t = some d) (hd : (match d with | .struct _ | .array _ _ => true | _ => false) = true) (hi : (P.info? t).map (·.size) = some cs.size) :
  (results fn tmps).run P w = .ok (.tuple #[.agg cs, v]) w := by
 have hl := run_loadVar_row (P := P) w g T t cs fr d hg hu hd hi
 simp only [Array.getD_eq_getD_getElem?] at ht hv
 simp [results, h, ht, hv, asAddr, hl]
theorem SchPost.errK {B : Nat} {w wZ w6 : World} {res : Except Int P13.Sch} {k : Int} {p : Option Addr} {n c0 : Nat} {g : Nat} {c : Array Value} {T : TypeId} (h : res = .error k) (hp : Puts g c T w6 wZ) (hk : Kept B [] w w6) (hg : B ≤ g) : SchPost B w res (.returned (.tuple #[.agg #[.slice p n c0], .int .i64 k])) wZ := by
 subst h
 exact ⟨⟨p, n, c0, rfl, fun s' h => by cases h⟩, ⟨hp.os.trans hk.os, hp.tape.trans hk.tape, hp.output.trans hk.output, by rw [hp.size]; exact hk.size, fun b h1 h2 h3 => (hp.rest b (by omega)).trans (hk.block b h1 h2 h3)⟩⟩
theorem SchPost.err {B : Nat} {w wZ w6 : World} {res : Except Int P13.Sch} {k : Int} {p : Option Addr} {n c0 : Nat} {g : Nat} {c : Array Value} {T : TypeId} (h : res = .error k) (hp : Puts g c T w6 wZ) (hx : Xk.Ext w w6) (hg : w.heap.size ≤ g) (hB : B ≤ w.heap.size) : SchPost B w res (.returned (.tuple #[.agg #[.slice p n c0], .int .i64 k])) wZ := by
 subst h
 exact ⟨⟨p, n, c0, rfl, fun s' h => by cases h⟩, (Kept.of_ext (puts_ext hp hx hg))⟩
theorem P13.places_lt {cs : P13.Cols} : ∀ {ns : List P12.T} {r : List Nat}, P13.places cs ns = some r → ∀ c ∈ r, c < cs.length
 | [], r, h => by cases h; intro c hc; cases hc
 | n :: ns, r, h => by
  unfold P13.places at h
  cases hcol : P13.column cs n with
  | none => rw [hcol] at h; cases h
  | some i =>
   rw [hcol] at h
   cases hp : P13.places cs ns with
   | none => rw [hp] at h; cases h
   | some r' =>
    rw [hp] at h
    cases h
    intro c hc
    rcases List.mem_cons.1 hc with rfl | hc
    ·exact (List.findIdx?_eq_some_iff_getElem.1 hcol).1
    ·exact P13.places_lt hp c hc
theorem P13.places_len {cs : P13.Cols} : ∀ {ns : List P12.T} {r : List Nat}, P13.places cs ns = some r → r.length = ns.length
 | [], r, h => by cases h; rfl
 | n :: ns, r, h => by
  unfold P13.places at h
  cases hcol : P13.column cs n with
  | none => rw [hcol] at h; cases h
  | some i =>
   rw [hcol] at h
   cases hp : P13.places cs ns with
   | none => rw [hp] at h; cases h
   | some r' => rw [hp] at h; cases h; rw [List.length_cons, List.length_cons, P13.places_len hp]
theorem take_any1 {α : Type} {f : α → Bool} {l : List α} {q : Nat} (h : q < l.length) : (l.take (q + 1)).any f = ((l.take q).any f || f l[q]) := by
 rw [List.take_add_one, List.getElem?_eq_getElem h, List.any_append]
 simp
structure CsM (B gt : Nat) (w7 : World) (nc nk : Nat) (nm : P12.T) (pc : Option Addr) (d1 : Nat) (pk : Option Addr) (d2 : Nat) (tq : P13.Tb) (wr : World) : Prop where
 cl : tq.cols.length = nc
 kl : tq.keys.length = nk
 nme : tq.name = nm
 chk : tq.checks = []
 kept : Kept B [] w7 wr
 blk : wr.heap[gt]? = some (.cells #[bs nm, .slice pc nc d1, .slice pk nk d2, nilS] 33)
 cols : Own (fun b => (B ≤ b ∧ b ≠ gt) ∧ ¬ (Value.slice pk nk d2).ownBlock = some b) 51 3 (fun _ _ => colR) tq.cols (.slice pc nc d1) wr
 keys : Own (fun b => (B ≤ b ∧ b ≠ gt) ∧ ¬ (Value.slice pc nc d1).ownBlock = some b) 100 4 kyR tq.keys (.slice pk nk d2) wr
 bt : B ≤ gt
section
variable {B gt : Nat} {w7 wr w' : World} {nc nk : Nat} {nm : P12.T} {pc : Option Addr} {d1 : Nat} {pk : Option Addr} {d2 : Nat} {tq : P13.Tb}
theorem CsM.ext (h : CsM B gt w7 nc nk nm pc d1 pk d2 tq wr) (hx : Xk.Ext wr w') : CsM B gt w7 nc nk nm pc d1 pk d2 tq w' :=
 ⟨h.cl, h.kl, h.nme, h.chk, h.kept.trans (Kept.of_ext hx), (hx.block gt (Array.getElem?_eq_some_iff.1 h.blk).1).trans h.blk, h.cols.keep stab_col (fun b _ hl => hx.block b hl) (fun _ h _ => h), h.keys.keep stab_ky (fun b _ hl => hx.block b hl) (fun _ h _ => h), h.bt⟩
theorem CsM.setKey {gk : Nat} (h : CsM B gt w7 nc nk nm pc d1 (some ⟨gk, 0, none⟩) d2 tq wr) {q : Nat} {k : P13.Ky} (hk : tq.keys[q]? = some k) {r : List Nat} {rv : Value} (hr : SlcAt (fun b => (((B ≤ b ∧ b ≠ gt) ∧ ¬ (Value.slice pc nc d1).ownBlock = some b) ∧ ¬ gk = b)) wr 1 intR r rv) :
  CsM B gt w7 nc nk nm pc d1 (some ⟨gk, 0, none⟩) d2 { tq with keys := tq.keys.set q { k with cols := r } } (wr.setCell ⟨gk, q * 4 + 1, none⟩ rv) := by
 have hg := (h.keys.lt gk rfl).1
 have ho : ∀ b, b ≠ gk → (wr.setCell ⟨gk, q * 4 + 1, none⟩ rv).heap[b]? = wr.heap[b]? := fun b hb => heap_setCell_other wr ⟨gk, q * 4 + 1, none⟩ b _ (fun e => hb (by simpa using e))
 refine ⟨h.cl, by rw [← h.kl]; simp, h.nme, h.chk, Kept.setCell h.kept (.inl hg.1.1) _ _, (ho gt (fun e => hg.1.2 e.symm)).trans h.blk, h.cols.keep stab_col (fun b hb _ => ho b (fun e => hb.2 (by rw [e]; rfl))) (fun _ h _ => h), Own.setCell stab_ky h.keys hk (by decide) rv ?_, h.bt⟩
 rintro u ⟨v, rfl, -⟩
 exact ⟨rv, rfl, hr⟩
theorem CsM.setCol {gc : Nat} (h : CsM B gt w7 nc nk nm (some ⟨gc, 0, none⟩) d1 pk d2 tq wr) {c : Nat} {a : P12.T} {ty : Int} {nn : Bool} (hc : tq.cols[c]? = some (a, ty, nn)) (b : Bool) :
  CsM B gt w7 nc nk nm (some ⟨gc, 0, none⟩) d1 pk d2 { tq with cols := tq.cols.set c (a, ty, b) } (wr.setCell ⟨gc, c * 3 + 2, none⟩ (.bool b)) := by
 have hg := (h.cols.lt gc rfl).1
 have ho : ∀ x, x ≠ gc → (wr.setCell ⟨gc, c * 3 + 2, none⟩ (.bool b)).heap[x]? = wr.heap[x]? := fun x hb => heap_setCell_other wr ⟨gc, c * 3 + 2, none⟩ x _ (fun e => hb (by simpa using e))
 refine ⟨by rw [← h.cl]; simp, h.kl, h.nme, h.chk, Kept.setCell h.kept (.inl hg.1.1) _ _, (ho gt (fun e => hg.1.2 e.symm)).trans h.blk, Own.setCell stab_col h.cols hc (by decide) (.bool b) ?_, h.keys.keep stab_ky (fun x hb _ => ho x (fun e => hb.2 (by rw [e]; rfl))) (fun _ h _ => h), h.bt⟩
 intro u hu
 obtain rfl : u = _ := hu
 rfl
theorem CsM.tbl (h : CsM B gt w7 nc nk nm pc d1 pk d2 tq wr) {S : Nat → Prop} (hS : ∀ b, B ≤ b → S b) : tblR S wr tq [bs nm, .slice pc nc d1, .slice pk nk d2, nilS] :=
 ⟨_, _, _, by rw [h.nme], (h.cols.slc stab_col (by decide)).keep (fun _ _ _ => rfl) (fun b hb _ => hS b hb.1.1) (fun _ _ h => h), (h.keys.slc stab_ky (by decide)).keep (fun _ _ _ => rfl) (fun b hb _ => hS b hb.1.1) (fun k u h => stab_ky _ _ _ _ _ _ h (fun _ _ _ => rfl) (fun b hb _ => hS b hb.1.1)), .inl ⟨h.chk, rfl⟩⟩
end
structure CsAt (B gt : Nat) (w7 : World) (t : P13.Tb) (nm : P12.T) (kcs : List (List P12.T)) (pc : Option Addr) (d1 : Nat) (pk : Option Addr) (d2 : Nat) (q : Nat) (tq : P13.Tb) (wr : World) : Prop where
 le : q ≤ kcs.length
 set : P13.setKeys t 0 kcs = P13.setKeys tq q (kcs.drop q)
 mem : CsM B gt w7 t.cols.length t.keys.length nm pc d1 pk d2 tq wr
theorem P13.setKeys_cons {t : P13.Tb} {q : Nat} {l : List P12.T} {rest : List (List P12.T)} {r : List Nat} {k : P13.Ky} (h : P13.places t.cols l = some r) (hk : t.keys[q]? = some k) : P13.setKeys t q (l :: rest) = P13.setKeys { t with keys := t.keys.set q { k with cols := r }, cols := P13.markCols t.cols k.prim r } (q + 1) rest := by
 conv => lhs; unfold P13.setKeys
 rw [h]
 dsimp only
 rw [List.getD_eq_getElem?_getD, hk]
 rfl
theorem P13.mark_nil (cols : P13.Cols) (p : Bool) : P13.markCols cols p [] = cols := by
 unfold P13.markCols
 apply List.ext_getElem (by simp)
 intro i h1 h2
 simp
theorem P13.mark_len (cols : P13.Cols) (p : Bool) (l : List Nat) : (P13.markCols cols p l).length = cols.length := by simp [P13.markCols]
theorem take_has {l : List Nat} {j : Nat} (hj : j < l.length) (i : Nat) : (l.take (j + 1)).contains i = ((l.take j).contains i || i == l[j]) := by
 have e : l.take (j + 1) = l.take j ++ [l[j]] := by rw [List.take_add_one, List.getElem?_eq_getElem hj]; rfl
 rw [e]
 generalize l.take j = a
 generalize l[j] = b
 induction a with
 | nil => simp only [List.nil_append, List.contains_cons, List.contains_nil, Bool.or_false, Bool.false_or]
 | cons x a ih => simp only [List.cons_append, List.contains_cons, ih, Bool.or_assoc]
theorem P13.mark_step {cols : P13.Cols} {p : Bool} {l : List Nat} {j : Nat} (hj : j < l.length) {a : P12.T} {ty : Int} {nn : Bool} (hc : (P13.markCols cols p (l.take j))[l[j]]? = some (a, ty, nn)) : P13.markCols cols p (l.take (j + 1)) = (P13.markCols cols p (l.take j)).set l[j] (a, ty, nn || p) := by
 apply List.ext_getElem? 
 intro i
 have hh := take_has hj i
 rw [List.getElem?_set]
 by_cases e : l[j] = i
 ·rw [e] at hc
  have hl := (List.getElem?_eq_some_iff.1 hc).1
  rw [P13.mark_len] at hl
  simp only [P13.markCols, List.getElem?_mapIdx, List.getElem?_eq_getElem hl, Option.map_some, Option.some.injEq, Prod.mk.injEq] at hc
  obtain ⟨h1, h2, h3⟩ := hc
  rw [if_pos e, if_pos (by rw [P13.mark_len, e]; exact hl), ← h1, ← h2, ← h3]
  simp only [P13.markCols, List.getElem?_mapIdx, List.getElem?_eq_getElem hl, Option.map_some, hh]
  rw [e]
  generalize (l.take j).contains i = z
  cases cols[i].2.2 <;> cases p <;> cases z <;> simp
 ·rw [if_neg e]
  simp only [P13.markCols, List.getElem?_mapIdx, hh]
  rw [show (i == l[j]) = false by simpa using fun h => e h.symm, Bool.or_false]
structure CrAt (ks : List Bool) (kcs : List (List P12.T)) (w4 : World) (q n : Nat) (ag lg : Bool) (wr : World) : Prop where
 le : q ≤ kcs.length
 ext : Xk.Ext w4 wr
 n : n = ((ks.take q).filter id).length
 ag : ag = (kcs.take q).any fun l => P13.twice l
 lg : lg = (kcs.take q).any fun l => decide (3 < l.length)
def CrRel (ks : List Bool) (kcs : List (List P12.T)) (w4 : World) (vn va vl x : Value) (wr : World) : Prop :=
 ∃ q n ag lg, x = .int .i64 (q : Nat) ∧ vn = .int .i64 (n : Nat) ∧ va = .bool ag ∧ vl = .bool lg ∧ CrAt ks kcs w4 q n ag lg wr
theorem CrAt.nb {ks : List Bool} {kcs : List (List P12.T)} {w4 wr : World} {q n : Nat} {ag lg : Bool} (h : CrAt ks kcs w4 q n ag lg wr) : n ≤ kcs.length := by
 have := List.length_filter_le (p := id) (ks.take q)
 rw [← h.n, List.length_take] at this
 have := h.le
 omega
theorem CrAt.step {ks : List Bool} {kcs : List (List P12.T)} {w4 wr w' : World} {q n : Nat} {ag lg : Bool} (h : CrAt ks kcs w4 q n ag lg wr) (hq : q < kcs.length) (hk : q < ks.length) {l : List P12.T} (hl : kcs[q] = l) {p : Bool} (hp : ks[q] = p) (hx : Xk.Ext w4 w') :
  CrRel ks kcs w4 (.int .i64 ((n : Int) + if p then 1 else 0)) (.bool (ag || P13.twice l)) (.bool (lg || decide (3 < l.length))) (.int .i64 ((q : Int) + 1)) w' := by
 refine ⟨q + 1, n + (if p then 1 else 0), _, _, by go_num, ?_, rfl, rfl, by omega, hx, ?_, ?_, ?_⟩
 ·cases p <;> go_num
 ·rw [List.take_add_one, List.getElem?_eq_getElem hk, List.filter_append, List.length_append, ← h.n, hp]
  cases p <;> rfl
 ·rw [take_any1 hq, hl, ← h.ag]
 ·rw [take_any1 hq, hl, ← h.lg]
theorem CrAt.step_of {ks : List Bool} {kcs : List (List P12.T)} {w4 wr w' : World} {q n : Nat} {ag lg : Bool} (h : CrAt ks kcs w4 q n ag lg wr) (hq : q < kcs.length) (hk : q < ks.length) {l : List P12.T} (hl : kcs[q] = l) {p : Bool} (hp : ks[q] = p) (hx : Xk.Ext w4 w') {a b c d : Value}
  (ha : a = .int .i64 ((n : Int) + if p then 1 else 0)) (hb : b = .bool (ag || P13.twice l)) (hc : c = .bool (lg || decide (3 < l.length))) (hd : d = .int .i64 ((q : Int) + 1)) : CrRel ks kcs w4 a b c d w' := by
 subst ha hb hc hd
 exact h.step hq hk hl hp hx
theorem P13.creates_has {s : P13.Sch} {x : P12.St} (h : P13.hasN s x.tb.name = true) : P13.creates s x = .error 131 := by
 unfold P13.creates
 exact if_pos h
theorem P13.creates_many {s : P13.Sch} {x : P12.St} (h : P13.hasN s x.tb.name = false) (hm : (decide (8 ≤ s.length) || decide ((P13.ofTb x.tb).cols.length < 1) || decide (8 < (P13.ofTb x.tb).cols.length) || decide (8 < (P13.ofTb x.tb).keys.length) || x.keyCols.any (fun l => decide (3 < l.length))) = true) : P13.creates s x = .error 134 := by
 unfold P13.creates
 dsimp only
 rw [if_neg (by rw [show (P13.ofTb x.tb).name = x.tb.name from rfl, h]; simp), if_pos hm]
theorem P13.creates_set {s : P13.Sch} {x : P12.St} (h : P13.hasN s x.tb.name = false) (hm : (decide (8 ≤ s.length) || decide ((P13.ofTb x.tb).cols.length < 1) || decide (8 < (P13.ofTb x.tb).cols.length) || decide (8 < (P13.ofTb x.tb).keys.length) || x.keyCols.any (fun l => decide (3 < l.length))) = false) :
  P13.creates s x = if (P13.twice ((P13.ofTb x.tb).cols.map (·.1)) || x.keyCols.any (fun l => P13.twice l) || decide (1 < (x.tb.keys.filter id).length)) = true then .error 133 else match P13.setKeys (P13.ofTb x.tb) 0 x.keyCols with
   | .error e => .error e
   | .ok t => .ok (s ++ [t]) := by
 unfold P13.creates
 dsimp only
 rw [if_neg (by rw [show (P13.ofTb x.tb).name = x.tb.name from rfl, h]; simp), if_neg (by rw [hm]; simp)]
 try rfl
theorem creates_any {S : Nat → Prop} {B : Nat} {s : P13.Sch} {v : Value} {x : P12.St} {lx : List Value} (w : World) (hB : B ≤ w.heap.size) (h : Own (fun b => B ≤ b) 33 4 tblR s v w) (hs : Low s) (hx : StmtIn S w x lx) (hS : ∀ b, S b → b < B) (ht : P12.tabOk x.tb x.keyCols = true) (hq : x.tb.checks = []) (hcp : 0 < x.tb.cols.length) :
  Calls Tryz.prog 27 #[.agg #[v], .agg lx.toArray] w (SchPost B w (P13.creates s x)) := by
 obtain ⟨tc, tk, tq, kc, cols, rows, sets, wh, items, frm, jn, grp, ord, hx⟩ := hx
 obtain ⟨rest, hrest⟩ : ∃ rest, lx = .int .i64 x.kind :: bs x.tb.name :: tc :: tk :: tq :: kc :: rest := ⟨_, hx.form⟩
 have htb := hx.tbl
 have hkc := hx.kc
 subst hrest
 obtain ⟨p1, c1, rfl⟩ := hx.tc.len
 obtain ⟨p2, c2, rfl⟩ := hx.tk.len
 obtain ⟨p3, c3, rfl⟩ : ∃ p3 c3, tq = .slice p3 0 c3 := by have := hx.tq; rw [hq] at this; exact this.len
 obtain ⟨p4, c4, rfl⟩ := hkc.len
 obtain ⟨ps, cs, rfl⟩ := h.form
 simp only [P12.tabOk, Bool.and_eq_true, decide_eq_true_eq, beq_iff_eq, List.all_eq_true] at ht
 obtain ⟨⟨⟨⟨⟨⟨-, -⟩, a3⟩, a4⟩, a5⟩, -⟩, -⟩ := ht
 have HT := Lib.hid htb
 have HKC := Lib.hid hkc
 have HO := Lib.hid h
 have HS := Lib.hid hs
 have HSB := Lib.hid hS
 have HA5 := Lib.hid a5
 have HA4 := Lib.hid a4
 have HQ := Lib.hid hq
 have HCP := Lib.hid hcp
 clear htb hkc h hs hS hx a5 a4 hcp
 go_enter Tryz.func27, Tryz.ntmps27
 go_upto_region 1 with fail
 obtain ⟨w1, hw1, h0, h1, h2, hx1, hz1⟩ := new3 w (.cells #[.slice ps s.length cs] 25) (.cells (.int .i64 x.kind :: bs x.tb.name :: .slice p1 x.tb.cols.length c1 :: .slice p2 x.tb.keys.length c2 :: .slice p3 0 c3 :: .slice p4 x.keyCols.length c4 :: rest).toArray 46) (.cells #[nilS] 25)
 rw [← hw1]
 clear hw1
 have hub := fun b hb => (HO.out.lt b hb)
 have HT1 := Lib.hid (HT.out.ext hx1)
 have hr1 : w1.rangeAt (w.heap.size + 1) 1 [bs x.tb.name, .slice p1 x.tb.cols.length c1, .slice p2 x.tb.keys.length c2, .slice p3 0 c3] := fun j u hj => by
  simp only [World.cell?, h1, Option.isSome_none, Bool.false_eq_true, if_false]
  match j, hj with
  | 0, hj => simpa using hj
  | 1, hj => simpa using hj
  | 2, hj => simpa using hj
  | 3, hj => simpa using hj
 have HTC := Lib.hid (tableOf_any w1 HT1.out hq (by show x.tb.cols.length ≤ _; omega) HCP.out (by show (List.map _ x.tb.keys).length ≤ _; rw [List.length_map]; omega) (fun k hk => by
  simp only [P13.ofTb, List.mem_map] at hk
  obtain ⟨p, -, rfl⟩ := hk
  simp))
 have lx1 : w.heap.size + 1 < w1.heap.size := by omega
 go_wp2_with (refine wpList_load_mid rfl 33 _ rfl (w.heap.size + 1) 1 rfl _ _ hr1 Tryz.underlying33 rfl (by kernel_rfl) ?_)
 refine HTC.out.mono ?_
 rintro e w2 ⟨⟨u, rfl, -, hot⟩, hx2⟩
 obtain ⟨-, tc, tk, rfl, hoc, hok⟩ := hot
 obtain ⟨q1, d1, rfl⟩ := hoc.form
 obtain ⟨q2, d2, rfl⟩ := hok.form
 obtain ⟨t, hte⟩ : ∃ t, t = P13.ofTb x.tb := ⟨_, rfl⟩
 have HTE := Lib.hid hte
 have hcpt : 0 < t.cols.length := by rw [hte]; exact HCP.out
 rw [show (P13.ofTb x.tb).name = x.tb.name from rfl]
 simp only [← hte] at hoc hok ⊢
 obtain ⟨gc, rfl⟩ := (hoc.slc stab_col (by decide)).root hcpt
 have HX2 := Lib.hid hx2
 have hs2 := hx2.size
 have HZ12 := Lib.hid hs2
 clear hx2 hr1 hte
 go_upto_region 2 with fail
 have hx3 : Xk.Ext w2 _ := extA w2 (.cells #[bs x.tb.name, .slice (some ⟨gc, 0, none⟩) t.cols.length d1, .slice q2 t.keys.length d2, nilS] 33)
 have hb3 := heap_new w2 (.cells #[bs x.tb.name, .slice (some ⟨gc, 0, none⟩) t.cols.length d1, .slice q2 t.keys.length d2, nilS] 33)
 generalize w2.alloc (.cells #[bs x.tb.name, .slice (some ⟨gc, 0, none⟩) t.cols.length d1, .slice q2 t.keys.length d2, nilS] 33) = w3 at *
 have hx13 := Xk.Ext.trans HX2.out hx3
 have hoc3 := hoc.keep stab_col (w' := w3) (S' := fun b => (w1.heap.size ≤ b ∧ b ≠ w2.heap.size) ∧ ¬ (Value.slice q2 t.keys.length d2).ownBlock = some b) (fun b _ hl => hx3.block b hl) (fun b h hl => ⟨⟨h.1, by omega⟩, h.2⟩)
 have hok3 := hok.keep stab_ky (w' := w3) (S' := fun b => (w1.heap.size ≤ b ∧ b ≠ w2.heap.size) ∧ ¬ (Value.slice (some ⟨gc, 0, none⟩) t.cols.length d1).ownBlock = some b) (fun b _ hl => hx3.block b hl) (fun b h hl => ⟨⟨h.1, by omega⟩, h.2⟩)
 have HCC := Lib.hid (colCells (hoc3.slc stab_col (by decide)))
 have HOC := Lib.hid hoc3
 have HOK := Lib.hid hok3
 have HX13 := Lib.hid hx13
 have hB3 := Lib.hid hb3
 have k31 : w3.cell? ⟨w2.heap.size, 1, none⟩ = some (.slice (some ⟨gc, 0, none⟩) t.cols.length d1) := by simp [World.cell?, hb3]
 have l3 : w2.heap.size < w3.heap.size := World.block_lt_of_cell? _ _ k31
 have hgc := (hoc3.lt gc rfl).2
 have hgc2 := (hoc.lt gc rfl).2
 have hgk2 := fun b hb => (hok.lt b hb).2
 have H0 := Lib.hid h0
 have H1 := Lib.hid h1
 have H2 := Lib.hid h2
 have htl : t.cols.length ≤ 1000 := by rw [HTE.out]; show x.tb.cols.length ≤ _; omega
 have HTL := Lib.hid htl
 clear hx3 hb3 hx13 hoc hok hoc3 hok3 h0 h1 h2
 obtain ⟨i0, hi, hz0, hz1, hz2⟩ := infoParts Tryz.infoString
 have Hi := Lib.hid hi
 have Hz0 := Lib.hid hz0
 have Hz1 := Lib.hid hz1
 have Hz2 := Lib.hid hz2
 clear hi hz0 hz1 hz2
 go_wp2_with fail
 go_loopw [9, 27] (fun o x wr => ∃ q : Nat, q ≤ t.cols.length ∧ x = .int .i64 q ∧ Xk.Ext w3 wr ∧ wr.ownsRow w3.heap.size 9 1 o q ((t.cols.take q).map fun c => bs c.1)) (fun _ x _ => t.cols.length - (intOf x).toNat)
 case atStart => exact ⟨0, by omega, rfl, Below.refl _ _, World.ownsRow_nil _ _ _ _⟩
 case round =>
  obtain ⟨q, hq, rfl, hx, ho⟩ := hrel
  obtain ⟨pn, cn, rfl⟩ := own_slice ho
  have HX := Lib.hid hx
  have HON := Lib.hid ho
  have hws := hx.size
  clear hx ho
  by_cases hlt : q < t.cols.length
  ·obtain ⟨-, -, he⟩ := SlcAt.elem (HOC.out.slc stab_col (by decide))
   obtain ⟨u, hu, -, hr⟩ := he q _ (List.getElem?_eq_getElem hlt)
   have HGET := Lib.hid (List.getElem?_eq_getElem hlt)
   have hr' := range_same hr (HX.out.block gc hgc)
   generalize t.cols[q] = c at *
   obtain ⟨cn1, ct, cb⟩ := c
   obtain rfl : u = _ := hu
   have HRJ := Lib.hid hr'
   have hlb : (q : Int) < (t.cols.length : Int) := by omega
   have hwg : gc < wr.heap.size := by omega
   clear hr hr' he
   have HXA := Lib.hid (Xk.Ext.trans (extA wr (.cells #[bs cn1, .int .i64 ct, .bool cb] 51)) (extA _ (.cells #[bs cn1] 9)))
   go_wp2_with (first | (refine wpList_load_mid rfl 51 _ rfl gc (q * 3) rfl _ _ HRJ.out Tryz.underlying51 rfl (by kernel_rfl) ?_) | (at_builtin; go_loud (refine Xo.wpList_appb w3.heap.size rfl _ _ 35 rfl 9 i0 _ 1 16 Tryz.underlying35 Hi.out Hz0.out Hz1.out Hz2.out rfl (by decide) (.slice pn q cn) q _ rfl (own_same HON.out (fun b hb => HXA.out.block b (HON.out.lt b hb).2)) (wr.heap.size + 1) 0 1 1 [bs cn1] rfl (by decide) rfl (cells_list _ _ _ (by rw [World.size_alloc])) (one_all (by kernel_rfl)) (by omega) (by simp only [World.size_alloc]; omega) ?_); intro v' w7 ho' hg' hk'))
   have hx7 : Xk.Ext w3 w7 := Below.grown (Xk.Ext.trans HX.out HXA.out) hg' (by simp only [World.size_alloc]; omega) (fun j hj => (HON.out.lt j hj).1)
   have HX7 := Lib.hid hx7
   have HO7 : Hid (w7.ownsRow w3.heap.size 9 1 v' (q + 1) ((t.cols.take (q + 1)).map fun c => bs c.1)) := Lib.hid (by rw [← take_map_succ HGET.out]; exact ho')
   clear ho' hg' hk' hx7
   go_wp2_with fail
   go_roundw
   case rel => exact ⟨q + 1, by omega, by go_num, HX7.out, HO7.out⟩
   case measure => simp [intOf]; omega
  ·have hlb : ¬ (q : Int) < (t.cols.length : Int) := by omega
   obtain rfl : q = t.cols.length := by omega
   have hon := HON.out
   rw [List.take_length] at hon
   have hsn := own_slc1 (l := t.cols.map (·.1)) (f := bs) (e := 9) (by rw [List.length_map, List.map_map]; exact hon) (by rw [List.length_map]; omega)
   have h1r := (HX.out.block _ (by omega)).trans ((HX13.out.block _ (by omega)).trans H1.out)
   have k14 : wr.cell? ⟨w.heap.size + 1, 5, none⟩ = some (.slice p4 x.keyCols.length c4) := by simp [World.cell?, h1r]
   have l1r : w.heap.size + 1 < wr.heap.size := by omega
   go_upto_region 11 with fail
   have HSN := Lib.hid hsn
   have HX4 := Lib.hid (Xk.Ext.trans HX13.out HX.out)
   have HOC4 := Lib.hid (HOC.out.keep stab_col (fun b _ hl => HX.out.block b hl) (fun b h _ => h))
   have HOK4 := Lib.hid (HOK.out.keep stab_ky (fun b _ hl => HX.out.block b hl) (fun b h _ => h))
   have HB4 := Lib.hid ((HX.out.block _ l3).trans hB3.out)
   have HZ4 : Hid (w3.heap.size ≤ wr.heap.size) := Lib.hid HX.out.size
   clear hon hsn h1r HON HX HOC HOK HX13 hB3 k31 hws htl hgc HCC hs2 HTC HT1 HT HX2
   rename World => w4
   go_wp2_with fail
   go_loopw [7, 8, 12, 40] (fun vn va vl x' wr => CrRel x.tb.keys x.keyCols w4 vn va vl x' wr) (fun _ _ _ x' _ => x.keyCols.length - (intOf x').toNat)
   case atStart => exact ⟨0, 0, false, false, rfl, rfl, rfl, rfl, by omega, Below.refl _ _, rfl, rfl, rfl⟩
   case round =>
    obtain ⟨q, n, ag, lg, rfl, rfl, rfl, rfl, hC⟩ := hrel
    have hq := hC.le
    have hx := hC.ext
    have hnb := hC.nb
    have hn1 : (n : Int) < 1000 := by have := HA4.out; omega
    have HC := Lib.hid hC
    clear hC
    by_cases hlt : q < x.keyCols.length
    ·have HX := Lib.hid hx
     have hws := hx.size
     obtain ⟨g4, rfl⟩ := HKC.out.root (by omega)
     obtain ⟨-, -, he⟩ := SlcAt.elem HKC.out
     obtain ⟨u, hu, -, hr⟩ := he q _ (List.getElem?_eq_getElem hlt)
     obtain ⟨l, hle⟩ : ∃ l, x.keyCols[q] = l := ⟨_, rfl⟩
     have HLE := Lib.hid hle
     have hm5 := HA5.out _ (List.getElem_mem hlt)
     rw [hle] at hu hm5
     obtain ⟨lv, rfl, hl⟩ := hu
     obtain ⟨pl, cl, rfl⟩ := hl.len
     have hxr : Xk.Ext w wr := Xk.Ext.trans hx1 (Xk.Ext.trans HX4.out hx)
     have hcl : wr.cell? ⟨g4, q, none⟩ = some (.slice pl l.length cl) := by
      have h0 := hr 0 _ rfl
      rw [Nat.mul_one, Nat.add_zero] at h0
      exact Xk.ext_cell hxr h0
     have lg4 := World.block_lt_of_cell? _ _ hcl
     simp only [P12.some, Bool.and_eq_true, decide_eq_true_eq] at hm5
     have HTW := Lib.hid fun W (hx : Xk.Ext wr W) => twiceS_any W ((hl.extG hxr).extG hx) (by omega)
     have hkq : q < t.keys.length := by rw [HTE.out]; show q < (List.map _ x.tb.keys).length; rw [List.length_map, ← HA4.out]; exact hlt
     obtain ⟨gk, ck, uk, hqk, hSk, hgk, -, huk, hrk⟩ := Own.elem stab_ky HOK4.out (by decide) (List.getElem?_eq_getElem hkq)
     cases hqk
     obtain ⟨kv, rfl, -⟩ := huk
     have hkq2 : q < x.tb.keys.length := by rw [← HA4.out]; exact hlt
     obtain ⟨pr, hpr⟩ : ∃ pr, x.tb.keys[q] = pr := ⟨_, rfl⟩
     have hkp : t.keys[q].prim = pr := by rw [← hpr]; simp only [HTE.out, P13.ofTb, List.getElem_map]
     have hck : wr.cell? ⟨gk, q * 4 + 3, none⟩ = some (.bool pr) := by rw [← hkp]; exact Xk.ext_cell hx (hrk 3 _ rfl)
     have HPR := Lib.hid hpr
     have HKQ2 := Lib.hid hkq2
     have lgk := World.block_lt_of_cell? _ _ hck
     have k32 : wr.cell? ⟨w2.heap.size, 2, none⟩ = some (.slice (some ⟨gk, 0, none⟩) t.keys.length d2) := by simp [World.cell?, (hx.block _ (by have := HZ4.out; omega)).trans HB4.out]
     have l3r : w2.heap.size < wr.heap.size := by have := HZ4.out; omega
     have hlb : (q : Int) < (x.keyCols.length : Int) := by omega
     have hkb : (q : Int) < (t.keys.length : Int) := by omega
     have HXR := Lib.hid hxr
     clear hr he hl hxr hrk hx hle hkp hpr
     cases ag
     case' false =>
      go_wp2_with fail
      refine (HTW.out _ (Below.refl _ _)).mono ?_
      rintro e w5 ⟨rfl, hx5⟩
      have HX := Lib.hid (Xk.Ext.trans HX.out hx5)
      have hck := Xk.ext_cell hx5 hck
      have k32 := Xk.ext_cell hx5 k32
      have l3r := World.block_lt_of_cell? _ _ k32
      have lgk := World.block_lt_of_cell? _ _ hck
     all_goals
      cases lg
     all_goals
      cases pr
     all_goals
      go_wp2_with fail
      go_roundw
      case rel => exact CrAt.step_of HC.out hlt HKQ2.out HLE.out HPR.out HX.out (by first | rfl | simp) (by first | rfl | simp) (by first | rfl | (simp; done) | (simp; omega)) rfl
      case measure => simp [intOf]; omega
    ·have hlb : ¬ (q : Int) < (x.keyCols.length : Int) := by omega
     obtain rfl : q = x.keyCols.length := by omega
     have hxr : Xk.Ext w wr := Xk.Ext.trans hx1 (Xk.Ext.trans HX4.out hx)
     have hN := HC.out.n
     have hAG := HC.out.ag
     have hLG := HC.out.lg
     rw [List.take_length] at hAG hLG
     rw [HA4.out, List.take_length] at hN
     have HN := Lib.hid hN
     have HAG := Lib.hid hAG
     have HLG := Lib.hid hLG
     have h0r := (hx.block _ (by have := HX4.out.size; omega)).trans ((HX4.out.block _ (by omega)).trans H0.out)
     have h2r := (hx.block _ (by have := HX4.out.size; omega)).trans ((HX4.out.block _ (by omega)).trans H2.out)
     have hbt := (hx.block _ (by have := HZ4.out; omega)).trans HB4.out
     have hws := hx.size
     have hz4 := HX4.out.size
     have HX5 := Lib.hid hxr
     have HX45 := Lib.hid hx
     have HSN5 := Lib.hid (HSN.out.extG hx)
     have HOC5 := Lib.hid (HOC4.out.keep stab_col (fun b _ hl => hx.block b hl) (fun b h _ => h))
     have HOK5 := Lib.hid (HOK4.out.keep stab_ky (fun b _ hl => hx.block b hl) (fun b h _ => h))
     have HHAS := Lib.hid (has_any x.tb.name wr (((HO.out.slc stab_tbl (by decide)).keep (fun b _ hl => hxr.block b hl) (fun _ hb _ => hb) (fun _ _ h => h.ext hxr)) : SchAt (fun b => B ≤ b) wr s _) HS.out.tabs HS.out.keys)
     have kt0 : wr.cell? ⟨w2.heap.size, 0, none⟩ = some (bs x.tb.name) := by simp [World.cell?, hbt]
     have H5 := Lib.hid hbt
     have H50 := Lib.hid h0r
     have H52 := Lib.hid h2r
     have l3r : w2.heap.size < wr.heap.size := World.block_lt_of_cell? _ _ kt0
     clear hN hAG hLG HC hxr hx hbt h2r HSN HOC4 HOK4 HB4 H0 H2
     rename World => w5
     go_wp2_with (first | (refine lw h0r Tryz.underlying25 ?_))
     refine HHAS.out.mono ?_
     rintro e w6 ⟨rfl, hx6⟩
     have k5 := Xk.ext_cell hx6 kt0
     have h06 := (hx6.block _ (by omega)).trans H50.out
     have h26 := (hx6.block _ (by omega)).trans H52.out
     have HX6 := Lib.hid hx6
     clear kt0 hx6
     cases hh : P13.hasN s x.tb.name
     case true =>
      have HR := Lib.hid (P13.creates_has hh)
      clear hh
      go_wp2_with (first | (refine lw h06 Tryz.underlying25 ?_) | (refine pw h26 ?_; intro wZ hpZ))
      exact bodyPost_ret (results_row1 rfl rfl rfl hpZ.blk Tryz.underlying25 rfl (by kernel_rfl)) rfl (SchPost.err HR.out hpZ (Xk.Ext.trans HX5.out HX6.out) (by omega) hB)
     case false =>
      have HH := Lib.hid hh
      clear hh
      have k60 : w6.cell? ⟨w.heap.size, 0, none⟩ = some (.slice ps s.length cs) := by simp [World.cell?, h06]
      have l60 := World.block_lt_of_cell? _ _ k60
      have h6t := (HX6.out.block _ l3r).trans H5.out
      have k61 : w6.cell? ⟨w2.heap.size, 1, none⟩ = some (.slice (some ⟨gc, 0, none⟩) t.cols.length d1) := by simp [World.cell?, h6t]
      have k62 : w6.cell? ⟨w2.heap.size, 2, none⟩ = some (.slice q2 t.keys.length d2) := by simp [World.cell?, h6t]
      have l6t := World.block_lt_of_cell? _ _ k61
      clear h6t
      obtain ⟨M, hM⟩ : ∃ M : Bool, M = (decide (8 ≤ s.length) || decide (t.cols.length < 1) || decide (8 < t.cols.length) || decide (8 < t.keys.length) || x.keyCols.any (fun l => decide (3 < l.length))) := ⟨_, rfl⟩
      have HM := Lib.hid hM
      clear hM
      go_upto_region 20 with fail
      go_cut [71] from 72 (fun v w' => v = .bool M ∧ w' = w6)
      case first =>
       have c1 : ¬ ((t.cols.length : Int) < 1) := by omega
       by_cases b1 : (8 : Int) ≤ s.length
       ·go_wp2_with fail
        go_meet
        case rel => exact ⟨by rw [HM.out, decide_eq_true (show 8 ≤ s.length by omega)]; rfl, rfl⟩
       ·by_cases b2 : (8 : Int) < t.cols.length
        ·go_wp2_with fail
         go_meet
         case rel => exact ⟨by rw [HM.out, decide_eq_true (show 8 < t.cols.length by omega)]; simp, rfl⟩
        ·by_cases b3 : (8 : Int) < t.keys.length
         ·go_wp2_with fail
          go_meet
          case rel => exact ⟨by rw [HM.out, decide_eq_true (show 8 < t.keys.length by omega)]; simp, rfl⟩
         ·go_wp2_with fail
          go_meet
          case rel => exact ⟨by rw [HM.out, ← HLG.out, decide_eq_false (show ¬ 8 < t.keys.length by omega), decide_eq_false (show ¬ 8 < t.cols.length by omega), decide_eq_false (show ¬ t.cols.length < 1 by omega), decide_eq_false (show ¬ 8 ≤ s.length by omega)]; rfl, rfl⟩
      case rest =>
       obtain ⟨rfl, hwc⟩ := hcut
       subst hwc
       have hMM := HM.out
       clear HM
       cases M
       case true =>
        have HR := Lib.hid (P13.creates_many HH.out (by rw [← HTE.out]; exact hMM.symm))
        clear hMM
        go_wp2_with (first | (refine lw h06 Tryz.underlying25 ?_) | (refine pw h26 ?_; intro wZ hpZ))
        exact bodyPost_ret (results_row1 rfl rfl rfl hpZ.blk Tryz.underlying25 rfl (by kernel_rfl)) rfl (SchPost.err HR.out hpZ (Xk.Ext.trans HX5.out HX6.out) (by omega) hB)
       case false =>
        have hcr := P13.creates_set HH.out (by rw [← HTE.out]; exact hMM.symm)
        rw [← HAG.out, ← HN.out, ← HTE.out] at hcr
        have HCR := Lib.hid hcr
        clear hMM hcr
        have HTW := Lib.hid (twiceS_any (l := t.cols.map (·.1)) (p := pn) (c := cn) wc (by rw [List.length_map]; exact HSN5.out.extG HX6.out) (by rw [List.length_map]; exact HTL.out))
        rw [List.length_map] at HTW
        generalize P13.twice (t.cols.map (·.1)) = tw at *
        go_upto_region 22 with fail
        go_cut [98] from 99 (fun v w' => v = .bool (tw || ag || decide (1 < n)) ∧ Xk.Ext wc w')
        case first =>
         go_wp2_with fail
         refine HTW.out.mono ?_
         rintro e w7 ⟨rfl, hx7⟩
         by_cases b1 : (1 : Int) < n
         all_goals
          cases tw
         all_goals
          cases ag
         all_goals
          go_wp2_with fail
          go_meet
          case rel => exact ⟨by first | rfl | (rw [decide_eq_true (show 1 < n by omega)]; rfl) | (rw [decide_eq_false (show ¬ 1 < n by omega), decide_eq_false (show ¬ (1 : Int) < n by omega)]; rfl), hx7⟩
        case rest =>
         obtain ⟨rfl, hx7⟩ := hcut
         have h07 := (hx7.block _ l60).trans h06
         have h27 := (hx7.block _ (Array.getElem?_eq_some_iff.1 h26).1).trans h26
         have HX7 := Lib.hid (Xk.Ext.trans HX6.out hx7)
         obtain ⟨D, hD⟩ : ∃ D : Bool, D = (tw || ag || decide (1 < n)) := ⟨_, rfl⟩
         rw [← hD] at HCR ⊢
         clear hD hx7 h06 h26 HTW
         rename World => w7
         cases D
         case true =>
          go_wp2_with (first | (refine lw h07 Tryz.underlying25 ?_) | (refine pw h27 ?_; intro wZ hpZ))
          exact bodyPost_ret (results_row1 rfl rfl rfl hpZ.blk Tryz.underlying25 rfl (by kernel_rfl)) rfl (SchPost.err (by have h := HCR.out; simpa using h) hpZ (Xk.Ext.trans HX5.out HX7.out) (by omega) hB)
         case false =>
          have hcr := HCR.out
          rw [if_neg (by decide)] at hcr
          have HCS := Lib.hid hcr
          have HX7W := Lib.hid (Xk.Ext.trans HX5.out HX7.out)
          have H7t := Lib.hid ((HX7.out.block _ l3r).trans H5.out)
          have H70 := Lib.hid h07
          have H72 := Lib.hid h27
          have k7x := Xk.ext_cell (Xk.Ext.trans HX45.out HX7.out) k14
          have l7x := World.block_lt_of_cell? _ _ k7x
          have hz17 : w1.heap.size ≤ w7.heap.size := Nat.le_trans hz4 (Xk.Ext.trans HX45.out HX7.out).size
          have HOC7 := Lib.hid (HOC5.out.keep stab_col (fun b _ hl => HX7.out.block b hl) (fun b h _ => h))
          have HOK7 := Lib.hid (HOK5.out.keep stab_ky (fun b _ hl => HX7.out.block b hl) (fun b h _ => h))
          clear hcr HCR HX7 HX45 H5 h07 h27 HOC5 HOK5 HX6 HX5 HSN5 HHAS k60 k61 k62 l60 l6t k5 H50 H52
          go_upto_region 24 with fail
          clear k14 l1r hnb hn1 hq hlt hlb HAG HLG HN
          go_wp2_with fail
          go_loopw [112] (fun x' wr => ∃ (q : Nat) (tq : P13.Tb), x' = .int .i64 q ∧ CsAt w1.heap.size w2.heap.size w7 t x.tb.name x.keyCols (some ⟨gc, 0, none⟩) d1 q2 d2 q tq wr) (fun x' _ => x.keyCols.length - (intOf x').toNat)
          case atStart => exact ⟨0, t, rfl, Nat.zero_le _, by rw [List.drop_zero], rfl, rfl, by rw [HTE.out]; rfl, by rw [HTE.out]; exact HQ.out, Kept.refl _ _ _, H7t.out, HOC7.out, HOK7.out, HZ12.out⟩
          case round =>
           obtain ⟨q, tq, rfl, hC⟩ := hrel
           have hz7 := hC.mem.kept.size
           have hcq := hC.mem.cl
           have hqle := hC.le
           have hxw : ∀ b, b < w1.heap.size → wr.heap[b]? = w7.heap[b]? := fun b hb => hC.mem.kept.block b hb (by omega) (by simp)
           by_cases hlt : q < x.keyCols.length
           ·obtain ⟨g4, rfl⟩ := HKC.out.root (by omega)
            obtain ⟨-, -, he⟩ := SlcAt.elem HKC.out
            obtain ⟨u, hu, -, hr⟩ := he q _ (List.getElem?_eq_getElem hlt)
            have hm5 := HA5.out _ (List.getElem_mem hlt)
            have HDR := Lib.hid (List.drop_eq_getElem_cons hlt)
            obtain ⟨l, hle⟩ : ∃ l, x.keyCols[q] = l := ⟨_, rfl⟩
            rw [hle] at hu hm5 HDR
            obtain ⟨lv, rfl, hl⟩ := hu
            obtain ⟨pl, cl, rfl⟩ := hl.len
            simp only [P12.some, Bool.and_eq_true, decide_eq_true_eq] at hm5
            have hwr : ∀ b, S b → b < w.heap.size → wr.heap[b]? = w.heap[b]? := fun b _ hb => (hxw b (by omega)).trans (HX7W.out.block b hb)
            have hcl : wr.cell? ⟨g4, q, none⟩ = some (.slice pl l.length cl) := by
             have h0 := hr 0 _ rfl
             rw [Nat.mul_one, Nat.add_zero] at h0
             have hlg := World.block_lt_of_cell? _ _ h0
             rw [World.cell?_of_block ((hxw g4 (by have : g4 < w.heap.size := hlg; omega)).trans (HX7W.out.block g4 hlg))]
             exact h0
            have lg4 := World.block_lt_of_cell? _ _ hcl
            have HPL := Lib.hid (places_any (k0 := .slice q2 t.keys.length d2) (q0 := nilS) x.tb.name l wr (hC.mem.cols.slc stab_col (by decide)) (by have := HTL.out; omega) (hl.keep hwr (fun b hb _ => hb) (fun _ _ h => h)) (by omega) (by omega))
            have hbt := hC.mem.blk
            have hlb : (q : Int) < (x.keyCols.length : Int) := by omega
            have HC := Lib.hid hC
            clear hr he hl hC hle hxw hwr
            go_wp2_with (refine lw hbt Tryz.underlying33 ?_)
            refine HPL.out.mono ?_
            rintro e w8 ⟨h8, hx8⟩
            cases hpl : P13.places tq.cols l
            case none =>
             rw [hpl] at h8
             dsimp only at h8
             subst h8
             have hcs := HCS.out
             rw [HC.out.set, HDR.out] at hcs
             unfold P13.setKeys at hcs
             rw [hpl] at hcs
             have HR := Lib.hid hcs
             have hk8 := HC.out.mem.kept.trans (Kept.of_ext hx8)
             have h08 := (hk8.block _ (by omega) (by omega) (by simp)).trans H70.out
             have h28 := (hk8.block _ (by omega) (by omega) (by simp)).trans H72.out
             have HK8 := Lib.hid hk8
             clear hpl hcs hx8 hk8
             go_wp2_with (first | (refine lw h08 Tryz.underlying25 ?_) | (refine pw h28 ?_; intro wZ hpZ))
             exact bodyPost_ret (results_row1 rfl rfl rfl hpZ.blk Tryz.underlying25 rfl (by kernel_rfl)) rfl (SchPost.errK HR.out hpZ ((Kept.of_ext HX7W.out).trans (HK8.out.mono (by omega) (fun _ h => h))) (by omega))
            case some r =>
             rw [hpl] at h8
             dsimp only at h8
             obtain ⟨rv, rfl, hsr⟩ := h8
             obtain ⟨pr, cr, rfl⟩ := hsr.len
             have hM8 := HC.out.mem.ext hx8
             have hkq : q < tq.keys.length := by rw [hM8.kl, HTE.out]; show q < (List.map _ x.tb.keys).length; rw [List.length_map, ← HA4.out]; exact hlt
             obtain ⟨k, hke⟩ : ∃ k, tq.keys[q]? = some k := ⟨_, List.getElem?_eq_getElem hkq⟩
             obtain ⟨gk, ck, uk, hqk, hSk, hgk, -, huk, hrk⟩ := Own.elem stab_ky hM8.keys (by decide) hke
             rw [hM8.kl] at hqk
             cases hqk
             obtain ⟨kv, rfl, hkv⟩ := huk
             obtain ⟨pv, cv, rfl⟩ := hkv.len
             have ck1 : w8.cell? ⟨gk, q * 4 + 1, none⟩ = some (.slice pv k.cols.length cv) := hrk 1 _ rfl
             have hcur := (Array.getElem?_eq_some_iff.1 hM8.blk).1
             have fk1 : w8.frozen? ⟨gk, q * 4 + 1, none⟩ = false := Own.frozen hM8.keys _
             have kt2 : w8.cell? ⟨w2.heap.size, 2, none⟩ = some (.slice (some ⟨gk, 0, none⟩) t.keys.length d2) := by simp [World.cell?, hM8.blk]
             have hM9 := CsM.setKey hM8 hke (r := r) (hsr.keep (fun _ _ _ => rfl) (fun b hb _ => ⟨⟨⟨by omega, fun e => by have := (Array.getElem?_eq_some_iff.1 hbt).1; omega⟩, fun e => by have := (HC.out.mem.cols.lt b e).2; omega⟩, fun e => by have := (HC.out.mem.keys.lt gk rfl).2; omega⟩) (fun _ _ h => h))
             have HM9 := Lib.hid hM9
             have hkb : (q : Int) < (t.keys.length : Int) := by have := hM8.kl; omega
             have HPL2 := Lib.hid hpl
             have HSR := Lib.hid hsr
             clear hkv hrk hM8 hM9 hsr hpl
             go_upto_region 31 with fail
             have hs9 := HSR.out.keep (w' := w8.setCell ⟨gk, q * 4 + 1, none⟩ (.slice pr r.length cr)) (S' := fun b => wr.heap.size ≤ b) (fun b hb _ => heap_setCell_other w8 ⟨gk, q * 4 + 1, none⟩ b _ (fun e => by have e' : b = gk := (by simpa using e); have := (HC.out.mem.keys.lt gk rfl).2; omega)) (fun _ h _ => h) (fun _ _ h => h)
             generalize w8.setCell ⟨gk, q * 4 + 1, none⟩ (.slice pr r.length cr) = w9 at *
             have HS9 := Lib.hid hs9
             clear hs9 ck1 fk1 kt2 hcur
             go_wp2_with fail
             go_loopw [135] (fun y wi => ∃ j : Nat, j ≤ r.length ∧ y = .int .i64 j ∧ CsM w1.heap.size w2.heap.size w7 t.cols.length t.keys.length x.tb.name (some ⟨gc, 0, none⟩) d1 (some ⟨gk, 0, none⟩) d2 { tq with keys := tq.keys.set q { k with cols := r }, cols := P13.markCols tq.cols k.prim (r.take j) } wi ∧ SlcAt (fun b => wr.heap.size ≤ b) wi 1 intR r (.slice pr r.length cr)) (fun y _ => r.length - (intOf y).toNat)
             case atStart => exact ⟨0, by omega, rfl, by rw [List.take_zero, P13.mark_nil]; exact HM9.out, HS9.out⟩
             case round =>
              obtain ⟨j, hj, rfl, hM, hsr⟩ := hrel
              rename World => wi
              have kt1 : wi.cell? ⟨w2.heap.size, 1, none⟩ = some (.slice (some ⟨gc, 0, none⟩) t.cols.length d1) := by simp [World.cell?, hM.blk]
              have kt2 : wi.cell? ⟨w2.heap.size, 2, none⟩ = some (.slice (some ⟨gk, 0, none⟩) t.keys.length d2) := by simp [World.cell?, hM.blk]
              have ltt := World.block_lt_of_cell? _ _ kt1
              by_cases hjl : j < r.length
              ·obtain ⟨gr, rfl⟩ := hsr.root (by omega)
               have hcr := slc_cell1 (f := fun n : Nat => Value.int .i64 n) hsr j hjl
               have lgr := World.block_lt_of_cell? _ _ hcr
               have hcl2 := P13.places_lt HPL2.out _ (List.getElem_mem hjl)
               have HST := Lib.hid fun a ty nn h => @P13.mark_step tq.cols k.prim r j hjl a ty nn h
               generalize r[j] = c at *
               obtain ⟨⟨a, ty, nn⟩, hcc⟩ : ∃ y, (P13.markCols tq.cols k.prim (r.take j))[c]? = some y := ⟨_, List.getElem?_eq_getElem (by rw [P13.mark_len]; exact hcl2)⟩
               have hsc := HST.out a ty nn hcc
               obtain ⟨gc', cc', uc, hqc, -, hgcl, -, huc, hrc⟩ := Own.elem stab_col hM.cols (by decide) (show ({ tq with keys := tq.keys.set q { k with cols := r }, cols := P13.markCols tq.cols k.prim (r.take j) } : P13.Tb).cols[c]? = some (a, ty, nn) from hcc)
               rw [hM.cl] at hqc
               cases hqc
               obtain rfl : uc = _ := huc
               have hcn : wi.cell? ⟨gc, c * 3 + 2, none⟩ = some (.bool nn) := hrc 2 _ rfl
               have hfn : wi.frozen? ⟨gc, c * 3 + 2, none⟩ = false := Own.frozen hM.cols _
               obtain ⟨gk', ck', uk', hqk', -, hgkl, -, huk', hrk'⟩ := Own.elem stab_ky hM.keys (by decide) (show ({ tq with keys := tq.keys.set q { k with cols := r }, cols := P13.markCols tq.cols k.prim (r.take j) } : P13.Tb).keys[q]? = some { k with cols := r } from by simp [hkq])
               rw [hM.kl] at hqk'
               cases hqk'
               obtain ⟨kv', rfl, -⟩ := huk'
               have hck : wi.cell? ⟨gk, q * 4 + 3, none⟩ = some (.bool k.prim) := hrk' 3 _ rfl
               have hjb : (j : Int) < (r.length : Int) := by omega
               have hcb : (c : Int) < (t.cols.length : Int) := by omega
               have HMW := Lib.hid hM
               have HSW := Lib.hid hsr
               have HCCC := Lib.hid hcc
               have HSC := Lib.hid hsc
               clear hM hsr hcc hsc HST hrc hrk'
               go_upto_region 34 with fail
               have HFIN : Hid (∀ b, b = (nn || k.prim) → ∀ p, CsM w1.heap.size w2.heap.size w7 t.cols.length t.keys.length x.tb.name (some ⟨gc, 0, none⟩) d1 (some ⟨gk, 0, none⟩) d2 { tq with keys := tq.keys.set q { k with cols := r }, cols := P13.markCols tq.cols k.prim (r.take (j + 1)) } (Xk.exw (wi.setCell ⟨gc, c * 3 + 2, none⟩ (.bool b)) p) ∧ SlcAt (fun b => wr.heap.size ≤ b) (Xk.exw (wi.setCell ⟨gc, c * 3 + 2, none⟩ (.bool b)) p) 1 intR r (.slice (some ⟨gr, 0, none⟩) r.length cr)) := Lib.hid fun b hb p => by
                have h1 := (CsM.setCol HMW.out HCCC.out b).ext (Xk.ext_exw _ p)
                rw [hb, ← HSC.out] at h1
                exact ⟨by rw [hb]; exact h1, (HSW.out.keep (w' := wi.setCell ⟨gc, c * 3 + 2, none⟩ (.bool b)) (S' := fun b => wr.heap.size ≤ b) (fun x hx _ => heap_setCell_other wi ⟨gc, c * 3 + 2, none⟩ x _ (fun e => by have e' : x = gc := (by simpa using e); have := (HC.out.mem.cols.lt gc rfl).2; omega)) (fun _ h _ => h) (fun _ _ h => h)).extG (Xk.ext_exw _ p)⟩
               clear hcr lgr
               have hj1 : (r.length : Int) ≤ 1000 := by have := P13.places_len HPL2.out; omega
               cases nn
               case' true => have hnp : true = (true || k.prim) := rfl
               case' false => have hnp : k.prim = (false || k.prim) := rfl
               all_goals
                have HNP := Lib.hid hnp
                clear hnp
                refine Xk.reg 19 ?_
                refine Xk.w0 (fun p => ?_)
                go_wp2_with fail
                exact ⟨⟨j + 1, by omega, by go_num, HFIN.out _ HNP.out p⟩, by simp [intOf]; omega⟩
              ·have hjb : ¬ (j : Int) < (r.length : Int) := by omega
               obtain rfl : j = r.length := by omega
               rw [List.take_length] at hM
               have hq1 : (x.keyCols.length : Int) ≤ 1000 := by have := HA4.out; omega
               have HMW := Lib.hid hM
               clear hM hsr
               go_wp2_with fail
               refine ⟨⟨q + 1, _, by go_num, by omega, ?_, HMW.out⟩, by simp [intOf]; omega⟩
               rw [HC.out.set, HDR.out]
               exact P13.setKeys_cons HPL2.out hke
           ·have hlb : ¬ (q : Int) < (x.keyCols.length : Int) := by omega
            obtain rfl : q = x.keyCols.length := by omega
            have hset := hC.set
            rw [List.drop_of_length_le (Nat.le_refl _)] at hset
            have hcs := HCS.out
            rw [hset] at hcs
            have HR := Lib.hid (show P13.creates s x = .ok (s ++ [tq]) from hcs)
            have hk := hC.mem.kept
            have hbt := hC.mem.blk
            have h0r := (hk.block _ (by omega) (by omega) (by simp)).trans H70.out
            have h2r := (hk.block _ (by omega) (by omega) (by simp)).trans H72.out
            have HM := Lib.hid hC.mem
            have HKB : Hid (∀ b, b < w1.heap.size → wr.heap[b]? = w7.heap[b]?) := Lib.hid hxw
            have HKW := Lib.hid ((Kept.of_ext HX7W.out).trans (hk.mono (B' := B) (by omega) (fun _ h => h)))
            have k0r : wr.cell? ⟨w.heap.size, 0, none⟩ = some (.slice ps s.length cs) := by simp [World.cell?, h0r]
            have l0r := World.block_lt_of_cell? _ _ k0r
            clear hset hcs hC hk Hi Hz0 Hz1 Hz2 i0
            obtain ⟨i0, hi, hz0, hz1, hz2⟩ := infoParts Tryz.infoTable
            have Hi := Lib.hid hi
            have Hz0 := Lib.hid hz0
            have Hz1 := Lib.hid hz1
            have Hz2 := Lib.hid hz2
            clear hi hz0 hz1 hz2
            have hos := HO.out.keep stab_tbl (w' := wr) (S' := fun b => B ≤ b ∧ (b < w.heap.size ∨ w1.heap.size ≤ b)) (fun b _ hl => (HKB.out b (by omega)).trans (HX7W.out.block b hl)) (fun b h hl => ⟨h, .inl hl⟩)
            have htq := HM.out.tbl (S := fun b => (B ≤ b ∧ (b < w.heap.size ∨ w1.heap.size ≤ b)) ∧ ¬ (Value.slice ps s.length cs).ownBlock = some b) (fun b h => ⟨⟨by omega, .inr h⟩, fun e => by have := (hub b e).2; omega⟩)
            have hwr7 : w1.heap.size ≤ wr.heap.size := by omega
            have hsl := HS.out.tabs
            obtain ⟨us, -, how, hus, hu2, hu3, hu4⟩ := hos
            have HOW := Lib.hid how
            have HU4 := Lib.hid hu4
            have HTQ := Lib.hid htq
            have HUS := Lib.hid hus
            have HUB := Lib.hid hub
            have H0R := Lib.hid h0r
            have H2R := Lib.hid h2r
            have l2r := (Array.getElem?_eq_some_iff.1 h2r).1
            clear how hu4 htq hus hub h0r h2r hcq
            go_upto_region 38 with (first | (refine lw hbt Tryz.underlying33 ?_) | (at_builtin; go_loud (refine Xo.wpList_appb 0 rfl _ _ 23 rfl 33 i0 _ 4 88 Tryz.underlying23 Hi.out Hz0.out Hz1.out Hz2.out rfl (by decide) (.slice ps s.length cs) s.length us.flatten rfl (HOW.out.alloc _) wr.heap.size 0 1 1 [bs x.tb.name, .slice (some ⟨gc, 0, none⟩) t.cols.length d1, .slice q2 t.keys.length d2, nilS] rfl (by decide) rfl (cells_list wr _ _ rfl) (one_all (by kernel_rfl)) (by omega) (Nat.zero_le _) ?_); intro v' w8 ho8 hg8 hk8; obtain ⟨z8, cz8, rfl⟩ := ownForm ho8 (by omega); have h80 := (hg8.block w.heap.size (by rw [World.size_alloc]; omega) (fun e => by have := (HUB.out _ e.symm).2; omega)).trans (((extA wr _).block w.heap.size l0r).trans H0R.out); have h82 := (hg8.block (w.heap.size + 2) (by rw [World.size_alloc]; omega) (fun e => by have := (HUB.out _ e.symm).2; omega)).trans (((extA wr _).block (w.heap.size + 2) l2r).trans H2R.out); have c8 : w8.cell? ⟨w.heap.size, 0, none⟩ = some (.slice ps s.length cs) := (by simp [World.cell?, h80]); have f8 := frozen_of_row w8 w.heap.size 0 _ _ h80; have l8 := (Array.getElem?_eq_some_iff.1 h80).1; have HO8 := Lib.hid ho8; have HG8 := Lib.hid hg8; have HK8 := Lib.hid hk8; have H80 := Lib.hid h80; have H82 := Lib.hid h82; clear ho8 hg8 hk8 h80 h82))
            have h90 := heap_setCell_same w8 w.heap.size 0 _ _ (.slice (some ⟨z8, 0, none⟩) (s.length + 1) cz8) H80.out
            have h9o : ∀ b, b ≠ w.heap.size → (w8.setCell ⟨w.heap.size, 0, none⟩ (.slice (some ⟨z8, 0, none⟩) (s.length + 1) cz8)).heap[b]? = w8.heap[b]? := fun b hb => heap_setCell_other w8 ⟨w.heap.size, 0, none⟩ b _ (fun e => hb (by simpa using e))
            have h92 := (h9o (w.heap.size + 2) (by omega)).trans H82.out
            have hk9 : Kept B [] wr (w8.setCell ⟨w.heap.size, 0, none⟩ (.slice (some ⟨z8, 0, none⟩) (s.length + 1) cz8)) := Kept.setCell (Kept.grown ((Kept.refl _ _ _).alloc _) HG8.out (fun b hb => (HUB.out b hb).1)) (.inl (by omega)) _ _
            generalize w8.setCell ⟨w.heap.size, 0, none⟩ (.slice (some ⟨z8, 0, none⟩) (s.length + 1) cz8) = w9 at *
            have HK9 := Lib.hid hk9
            have H9O := Lib.hid h9o
            clear hk9 h9o c8 f8 k0r
            go_wp2_with (first | (refine lw h90 Tryz.underlying25 ?_) | (refine pw h92 ?_; intro wZ hpZ))
            have hp := Own.push (x := tq) stab_tbl HUS.out (fun b hb => by rw [World.size_alloc] at hb; exact ⟨by omega, .inr (by omega)⟩) hu2 hu3 (fun j x u hx hu => stab_tbl _ _ _ _ _ _ (HU4.out j x u hx hu) (fun b hb hl => (extA wr _).block b hl) (fun b hb _ => hb)) HG8.out HO8.out HK8.out rfl (stab_tbl _ _ _ _ _ _ HTQ.out (fun b hb hl => (extA wr _).block b hl) (fun b hb _ => hb))
            have hpz := (hp.keep stab_tbl (w' := wZ) (S' := fun b => B ≤ b) (fun b hb _ => (hpZ.rest b (by omega)).trans (H9O.out b (by omega))) (fun b hb _ => hb.1)).slc stab_tbl (by decide)
            refine bodyPost_ret (results_row1 rfl rfl rfl hpZ.blk Tryz.underlying25 rfl (by kernel_rfl)) rfl ⟨⟨_, _, _, by rw [HR.out]; rfl, fun s' hs' => ?_⟩, ?_⟩
            ·rw [HR.out] at hs'
             cases hs'
             exact hpz
            ·have hk := HKW.out.trans HK9.out
             exact ⟨hpZ.os.trans hk.os, hpZ.tape.trans hk.tape, hpZ.output.trans hk.output, by rw [hpZ.size]; exact hk.size, fun b h1 h2 h3 => (hpZ.rest b (by omega)).trans (hk.block b h1 h2 h3)⟩
theorem P13.indexes_none {s : P13.Sch} {x : P12.St} (h : P13.find s x.on = none) : P13.indexes s x = .error 130 := by
 unfold P13.indexes; rw [h]
theorem P13.indexes_at {s : P13.Sch} {x : P12.St} {i : Nat} {t : P13.Tb} (h : P13.find s x.on = some i) (ht : s[i]? = some t) : P13.indexes s x = if P13.hasN s x.name then .error 131
  else if decide (8 ≤ t.keys.length) || decide (3 < x.cols.length) then .error 134
  else match P13.places t.cols x.cols with
   | none => .error 132
   | some cs => if P13.twice cs then .error 133 else .ok (s.set i { t with keys := t.keys ++ [{ name := x.name, cols := cs, uniq := x.unique }] }) := by
 unfold P13.indexes
 rw [h]
 dsimp only
 rw [List.getD_eq_getElem?_getD, ht]
 rfl
theorem Own.imp2 {α β : Type} {S S' : Nat → Prop} {e : TypeId} {sz : Nat} {R : (Nat → Prop) → World → α → List Value → Prop} {R' : (Nat → Prop) → World → β → List Value → Prop} {xs : List α} {ys : List β} {z n cz : Nat} {w : World} (hsz : 0 < sz) (h : Own S e sz R xs (.slice (some ⟨z, 0, none⟩) n cz) w) (hl : ys.length = xs.length) (hz : S' z)
  (hR : ∀ (j : Nat) x y u, xs[j]? = some x → ys[j]? = some y → w.rangeAt z (j * sz) u → u.length = sz → R (fun b => S b ∧ ¬ z = b) w x u → R' (fun b => S' b ∧ ¬ z = b) w y u) : Own S' e sz R' ys (.slice (some ⟨z, 0, none⟩) n cz) w := by
 have he : ∀ T : Nat → Prop, (fun b => T b ∧ ¬ (Value.slice (some ⟨z, 0, none⟩) n cz).ownBlock = some b) = fun b => T b ∧ ¬ z = b := fun T => by
  funext b
  simp [Value.ownBlock]
 obtain ⟨us, h0, h1, h2, h3, h4, h5⟩ := h
 refine ⟨us, fun e => h0 (List.eq_nil_of_length_eq_zero (by rw [← hl, e]; rfl)), by rw [hl]; exact h1, fun b hb => by cases hb; exact hz, by rw [hl]; exact h3, h4, fun j y u hy hu => ?_⟩
 have hj := (List.getElem?_eq_some_iff.1 hy).1
 have h5' := h5 j xs[j] u (List.getElem?_eq_getElem (by omega)) hu
 rw [he] at h5' ⊢
 refine hR j xs[j] y u (List.getElem?_eq_getElem (by omega)) hy (fun i v hv => ?_) (h4 u (List.mem_of_getElem? hu)) h5'
 rcases h1.2 with ⟨hv', -⟩ | ⟨g, cap, cur, hv', a1, a2, a3, a4, a5, a6⟩
 ·cases hv'
 ·cases hv'
  have hi : i < sz := by have := (List.getElem?_eq_some_iff.1 hv).1; rw [h4 _ (List.mem_of_getElem? hu)] at this; exact this
  have hf := flat_at us h4 j _ hu i hi
  rw [hv, ← a6, List.getElem?_take] at hf
  split at hf
  ·simp only [World.cell?, a2, Option.isSome_none, Bool.false_eq_true, if_false]
   simpa using hf
  ·cases hf
def parR (S : Nat → Prop) (w : World) (x : P13.Tb × Bool) (u : List Value) : Prop := if x.2 then x.1.checks = [] ∧ ∃ tc tk, u = [bs x.1.name, tc, tk, nilS] ∧ SlcAt S w 3 colR x.1.cols tc else tblR S w x.1 u
theorem stab_par : Stab parR := fun S S' w w' x u h hb hS => by
 obtain ⟨t, b⟩ := x
 cases b
 ·exact stab_tbl _ _ _ _ _ _ (show tblR S w t u from h) hb hS
 ·obtain ⟨hq, tc, tk, h1, h2⟩ := (show t.checks = [] ∧ ∃ tc tk, u = [bs t.name, tc, tk, nilS] ∧ SlcAt S w 3 colR t.cols tc from h)
  exact ⟨hq, tc, tk, h1, h2.keep hb hS (fun _ _ h => h)⟩
theorem OSch.index {S : Nat → Prop} {gT cs i : Nat} {κ : Nat → Nat} {w7 w8 : World} {s : P13.Sch} {t : P13.Tb} {pk : Value} {ks : List P13.Ky} {v' : Value}
  (hO : Own S 33 4 (otR κ) s.zipIdx (.slice (some ⟨gT, 0, none⟩) s.length cs) w7) (hti : s[i]? = some t) (hc : w7.cell? ⟨gT, i * 4 + 2, none⟩ = some pk) (hpk : ∀ b, pk.ownBlock = some b → κ b = i + 1 ∧ gT ≠ b)
  (hg : w7.grownBy w8 pk.ownBlock) (hk : SlcAt (fun b => S b ∧ ¬ gT = b) w8 4 (kyR (fun b => S b ∧ ¬ gT = b) w8) ks v') :
  SchAt S (w8.setCell ⟨gT, i * 4 + 2, none⟩ v') (s.set i { t with keys := ks }) (.slice (some ⟨gT, 0, none⟩) s.length cs) := by
 have hil := (List.getElem?_eq_some_iff.1 hti).1
 have hA : Own (fun b => S b ∧ ¬ pk.ownBlock = some b) 33 4 parR (s.zipIdx.map fun x => (x.1, x.2 == i)) (.slice (some ⟨gT, 0, none⟩) s.length cs) w7 := by
  refine Own.imp2 (by decide) hO (by simp) ⟨(hO.lt gT rfl).1, fun e => (hpk gT e).2 rfl⟩ fun j x y u hx hy hr hu h => ?_
  rw [List.getElem?_map, hx] at hy
  obtain rfl := Option.some.inj hy
  rw [List.getElem?_zipIdx] at hx
  obtain ⟨t', ht', rfl⟩ := Option.map_eq_some_iff.1 hx
  rw [Nat.zero_add] at h ⊢
  by_cases e : j = i
  ·subst e
   obtain ⟨hq, tc, tk, rfl, h1, h2⟩ := h
   have h3 := hr 2 tk rfl
   rw [hc] at h3
   cases h3
   unfold parR
   rw [if_pos (by simp)]
   exact ⟨hq, tc, pk, rfl, (h1.slc stab_col (by decide)).keep (fun _ _ _ => rfl) (fun b hb _ => ⟨⟨hb.1.1.1, hb.2⟩, hb.1.1.2⟩) (fun _ _ h => h)⟩
  ·unfold parR
   rw [if_neg (by simpa using e)]
   exact stab_tbl _ _ _ _ _ _ (otabR.tbl h) (fun _ _ _ => rfl) (fun b hb _ => ⟨⟨hb.1.1, fun e' => by have := (hpk b e').1; have := hb.2; dsimp only at this; omega⟩, hb.1.2⟩)
 have hB := (hA.keep stab_par (w' := w8) (S' := S) (fun b hb hl => hg.block b hl (fun e => hb.2 e.symm)) (fun b hb _ => hb.1))
 have hxi : (s.zipIdx.map fun x => (x.1, x.2 == i))[i]? = some (t, true) := by rw [List.getElem?_map, List.getElem?_zipIdx, hti]; simp
 have hC := Own.setCell stab_par hB hxi (show 2 < 4 by decide) v' (x := ({ t with keys := ks }, false)) (fun u hu => by
  obtain ⟨hq, tc, tk, rfl, h1⟩ := (show t.checks = [] ∧ ∃ tc tk, u = [bs t.name, tc, tk, nilS] ∧ SlcAt _ w8 3 colR t.cols tc from hu)
  exact (show tblR _ w8 { t with keys := ks } _ from ⟨tc, v', nilS, rfl, h1, hk, .inl ⟨hq, rfl⟩⟩))
 refine (hC.imp (R' := tblR) (ys := s.set i { t with keys := ks }) (by simp) fun j x y u hx hy hu => ?_).slc stab_tbl (by decide)
 by_cases e : i = j
 ·subst e
  rw [List.getElem?_set_self (by simpa using hil)] at hx
  rw [List.getElem?_set_self hil] at hy
  cases hx
  cases hy
  exact hu
 ·rw [List.getElem?_set_ne e, List.getElem?_map, List.getElem?_zipIdx] at hx
  rw [List.getElem?_set_ne e] at hy
  rw [hy] at hx
  obtain rfl := Option.some.inj hx
  unfold parR at hu
  rw [if_neg (by simpa using fun h => e h.symm)] at hu
  exact hu
theorem indexes_any {S : Nat → Prop} {B : Nat} {s : P13.Sch} {v : Value} {x : P12.St} {lx : List Value} (w : World) (hB : B ≤ w.heap.size) (h : OSch B w s v) (hs : Low s) (hx : StmtIn S w x lx) (hS : ∀ b, S b → b < B) (hc1 : 0 < x.cols.length) (hc2 : x.cols.length ≤ 16) :
  Calls Tryz.prog 28 #[.agg #[v], .agg lx.toArray] w (SchPost B w (P13.indexes s x)) := by
 obtain ⟨tc, tk, tq, kc, cols, rows, sets, wh, items, frm, jn, grp, ord, hx⟩ := hx
 obtain ⟨v0, v1, v2, v3, v4, v5, rest, hrest⟩ : ∃ v0 v1 v2 v3 v4 v5 rest, lx = v0 :: v1 :: v2 :: v3 :: v4 :: v5 :: bs x.name :: bs x.on :: .bool x.unique :: cols :: rest := ⟨_, _, _, _, _, _, _, hx.form⟩
 have hcols := hx.cols
 subst hrest
 obtain ⟨p4, c4, rfl⟩ := hcols.len
 obtain ⟨ps, cs, rfl⟩ := h.tabs.form
 have hub := fun b hb => h.tabs.lt b hb
 have HO := Lib.hid h
 have HS := Lib.hid hs
 have HCO := Lib.hid hcols
 clear h hs hx hcols
 go_enter Tryz.func28, Tryz.ntmps28
 go_upto_region 1 with fail
 obtain ⟨w1, hw1, h0, h1, h2, hx1, hz1⟩ := new3 w (.cells #[.slice ps s.length cs] 25) (.cells (v0 :: v1 :: v2 :: v3 :: v4 :: v5 :: bs x.name :: bs x.on :: .bool x.unique :: .slice p4 x.cols.length c4 :: rest).toArray 46) (.cells #[nilS] 25)
 rw [← hw1]
 clear hw1
 have kn : w1.cell? ⟨w.heap.size + 1, 6, none⟩ = some (bs x.name) := by simp [World.cell?, h1]
 have ko : w1.cell? ⟨w.heap.size + 1, 7, none⟩ = some (bs x.on) := by simp [World.cell?, h1]
 have ku : w1.cell? ⟨w.heap.size + 1, 8, none⟩ = some (.bool x.unique) := by simp [World.cell?, h1]
 have kcl : w1.cell? ⟨w.heap.size + 1, 9, none⟩ = some (.slice p4 x.cols.length c4) := by simp [World.cell?, h1]
 have l1 : w.heap.size + 1 < w1.heap.size := by omega
 have HKX : Hid (∀ W, Xk.Ext w1 W → W.cell? ⟨w.heap.size + 1, 6, none⟩ = some (bs x.name) ∧ W.cell? ⟨w.heap.size + 1, 8, none⟩ = some (.bool x.unique) ∧ W.cell? ⟨w.heap.size + 1, 9, none⟩ = some (.slice p4 x.cols.length c4) ∧ w.heap.size + 1 < W.heap.size ∧ W.heap[w.heap.size]? = some (.cells #[.slice ps s.length cs] 25) ∧ W.heap[w.heap.size + 2]? = some (.cells #[nilS] 25)) := Lib.hid fun W hx => ⟨Xk.ext_cell hx kn, Xk.ext_cell hx ku, Xk.ext_cell hx kcl, Nat.lt_of_lt_of_le l1 hx.size, (hx.block _ (by omega)).trans h0, (hx.block _ (by omega)).trans h2⟩
 have HX1 := Lib.hid hx1
 have HSC := Lib.hid fun W (hx : Xk.Ext w1 W) => (HO.out.keep (B' := B) (fun b _ hl => (Xk.Ext.trans hx1 hx).block b hl) (Nat.le_refl _)).sch
 have HF := Lib.hid (find_any x.on w1 (HSC.out w1 (Below.refl _ _)) HS.out.tabs)
 clear kn ku kcl h1 h2 hx1
 go_wp2_with (first | (refine lw h0 Tryz.underlying25 ?_))
 refine HF.out.mono ?_
 rintro e w2 ⟨rfl, hx2⟩
 obtain ⟨kn, ku, kcl, l2, h0', h2'⟩ := HKX.out _ hx2
 have HX2 := Lib.hid hx2
 clear hx2 h0 ko l1
 cases hf : P13.find s x.on
 case none =>
  have HR := Lib.hid (P13.indexes_none hf)
  clear hf
  rw [show placeV none = .tuple #[.int .i64 0, .bool false] from rfl]
  go_wp2_with (first | (refine lw h0' Tryz.underlying25 ?_) | (refine pw h2' ?_; intro wZ hpZ))
  exact bodyPost_ret (results_row1 rfl rfl rfl hpZ.blk Tryz.underlying25 rfl (by kernel_rfl)) rfl (SchPost.err HR.out hpZ (Xk.Ext.trans HX1.out HX2.out) (by omega) hB)
 case some i =>
  have hil : i < s.length := (List.findIdx?_eq_some_iff_getElem.1 hf).1
  obtain ⟨t, hti⟩ : ∃ t, s[i]? = some t := ⟨_, List.getElem?_eq_getElem hil⟩
  have HIX := Lib.hid (P13.indexes_at hf hti)
  have HTI := Lib.hid hti
  rw [show placeV (some i) = .tuple #[.int .i64 i, .bool true] from rfl]
  have hsl := HS.out.tabs
  obtain ⟨κ, hoz0⟩ := HO.out
  have hoz := hoz0.keep (stab_ot κ) (w' := w2) (S' := fun b => B ≤ b ∧ b < w.heap.size) (fun b _ hl => (Xk.Ext.trans HX1.out HX2.out).block b hl) (fun b h hl => ⟨h, hl⟩)
  have hzi : s.zipIdx[i]? = some (t, i) := by rw [List.getElem?_zipIdx, hti]; simp
  obtain ⟨gT, cT, u, hqT, hST, hgT, -, hu, hr⟩ := Own.elem (stab_ot κ) hoz (by decide) hzi
  rw [List.length_zipIdx] at hqT
  cases hqT
  obtain ⟨hchk, tc', tk', rfl, huc, huk⟩ := hu
  obtain ⟨pc, dc, rfl⟩ := huc.form
  obtain ⟨pk, dk, rfl⟩ := huk.form
  have htm := List.mem_of_getElem? hti
  have hkl := HS.out.keys t htm
  have hcl := HS.out.cols t htm
  have HOZ := Lib.hid hoz
  have HUC := Lib.hid huc
  have HUK := Lib.hid huk
  have HRT := Lib.hid hr
  have HHAS := Lib.hid fun W (hx : Xk.Ext w2 W) => has_any x.name W (HSC.out W (Xk.Ext.trans HX2.out hx)) HS.out.tabs HS.out.keys
  have kts : w2.cell? ⟨w.heap.size, 0, none⟩ = some (.slice (some ⟨gT, 0, none⟩) s.length cs) := by simp [World.cell?, h0']
  have hib : (i : Int) < (s.length : Int) := by omega
  have l20 := World.block_lt_of_cell? _ _ kts
  have hgTw := hST.2
  have HW2 : Hid (w.heap.size ≤ w2.heap.size) := Lib.hid (Xk.Ext.trans HX1.out HX2.out).size
  clear hoz hoz0 huc huk hr hti hzi
  go_upto_region 5 with (first | (refine wpList_load_mid rfl 33 _ rfl gT (i * 4) rfl _ _ HRT.out Tryz.underlying33 rfl (by kernel_rfl) ?_))
  have hx3 := extA w2 (.cells #[bs t.name, .slice pc t.cols.length dc, .slice pk t.keys.length dk, nilS] 33)
  have hb3 := heap_new w2 (.cells #[bs t.name, .slice pc t.cols.length dc, .slice pk t.keys.length dk, nilS] 33)
  generalize w2.alloc (.cells #[bs t.name, .slice pc t.cols.length dc, .slice pk t.keys.length dk, nilS] 33) = w3 at *
  have HX3 := Lib.hid hx3
  have HB3 := Lib.hid hb3
  have HX23 := Lib.hid (Xk.Ext.trans HX2.out hx3)
  clear kn ku kcl l2 h0' h2' kts l20
  obtain ⟨kn, ku, kcl, l2, h0', h2'⟩ := HKX.out _ HX23.out
  clear hx3 hb3
  go_wp2_with (first | (refine lw h0' Tryz.underlying25 ?_))
  refine (HHAS.out _ HX3.out).mono ?_
  rintro e w4 ⟨rfl, hx4⟩
  have HX24 := Lib.hid (Xk.Ext.trans HX23.out hx4)
  have HX34 := Lib.hid hx4
  clear kn ku kcl l2 h0' h2' hx4
  obtain ⟨kn, ku, kcl, l2, h0', h2'⟩ := HKX.out _ HX24.out
  cases hh : P13.hasN s x.name
  case true =>
   have HR := Lib.hid (HIX.out.trans (if_pos hh))
   clear hh
   go_wp2_with (first | (refine lw h0' Tryz.underlying25 ?_) | (refine pw h2' ?_; intro wZ hpZ))
   exact bodyPost_ret (results_row1 rfl rfl rfl hpZ.blk Tryz.underlying25 rfl (by kernel_rfl)) rfl (SchPost.err HR.out hpZ (Xk.Ext.trans HX1.out HX24.out) (by omega) hB)
  case false =>
   have hix := HIX.out
   rw [if_neg (by rw [hh]; simp)] at hix
   have HIX2 := Lib.hid hix
   have hb4 := (HX34.out.block _ (Array.getElem?_eq_some_iff.1 HB3.out).1).trans HB3.out
   have kt2 : w4.cell? ⟨w2.heap.size, 2, none⟩ = some (.slice pk t.keys.length dk) := by simp [World.cell?, hb4]
   have l4t := World.block_lt_of_cell? _ _ kt2
   have HB4 := Lib.hid hb4
   clear hh hix hb4
   go_upto_region 7 with fail
   obtain ⟨M, hM⟩ : ∃ M : Bool, M = (decide (8 ≤ t.keys.length) || decide (3 < x.cols.length)) := ⟨_, rfl⟩
   rw [← hM] at HIX2
   have HM := Lib.hid hM
   clear hM
   go_cut [32] from 33 (fun v w' => v = .bool M ∧ w' = w4)
   case first =>
    by_cases b1 : (8 : Int) ≤ t.keys.length
    ·go_wp2_with fail
     go_meet
     case rel => exact ⟨by rw [HM.out, decide_eq_true (show 8 ≤ t.keys.length by omega)]; rfl, rfl⟩
    ·by_cases b2 : (3 : Int) < x.cols.length
     ·go_wp2_with fail
      go_meet
      case rel => exact ⟨by rw [HM.out, decide_eq_true (show 3 < x.cols.length by omega)]; simp, rfl⟩
     ·go_wp2_with fail
      go_meet
      case rel => exact ⟨by rw [HM.out, decide_eq_false (show ¬ 8 ≤ t.keys.length by omega), decide_eq_false (show ¬ 3 < x.cols.length by omega)]; rfl, rfl⟩
   case rest =>
    obtain ⟨rfl, hwc⟩ := hcut
    subst hwc
    clear HM
    cases M
    case true =>
     have HR := Lib.hid (show P13.indexes s x = .error 134 from HIX2.out)
     go_wp2_with (first | (refine lw h0' Tryz.underlying25 ?_) | (refine pw h2' ?_; intro wZ hpZ))
     exact bodyPost_ret (results_row1 rfl rfl rfl hpZ.blk Tryz.underlying25 rfl (by kernel_rfl)) rfl (SchPost.err HR.out hpZ (Xk.Ext.trans HX1.out HX24.out) (by omega) hB)
    case false =>
     have hix := HIX2.out
     rw [if_neg (by decide)] at hix
     have HIX3 := Lib.hid hix
     have hw4 : ∀ b, b < w2.heap.size → wc.heap[b]? = w2.heap[b]? := fun b hb => ((Xk.Ext.trans HX3.out HX34.out).block b hb)
     have huc4 := HUC.out.keep stab_col (w' := wc) (S' := fun b => b < w2.heap.size) (fun b _ hl => hw4 b hl) (fun b _ hl => hl)
     have hco4 := HCO.out.keep (w' := wc) (S' := fun b => b < w.heap.size) (fun b _ hl => (Xk.Ext.trans HX1.out HX24.out).block b hl) (fun b _ hl => hl) (fun _ _ h => h)
     have HPL := Lib.hid (places_any (k0 := .slice pk t.keys.length dk) (q0 := nilS) t.name x.cols wc (huc4.slc stab_col (by decide)) (by omega) hco4 (by omega) hc1)
     have hb4 := HB4.out
     have HW4 := Lib.hid hw4
     clear hix huc4 hco4 hw4 HIX2 HIX HHAS HF
     go_wp2_with (first | (refine lw hb4 Tryz.underlying33 ?_))
     refine HPL.out.mono ?_
     rintro e w5 ⟨h5, hx5⟩
     have HX45 := Lib.hid hx5
     have HX25 := Lib.hid (Xk.Ext.trans HX24.out hx5)
     clear kn ku kcl l2 h0' h2' hb4
     obtain ⟨kn, ku, kcl, l2, h0', h2'⟩ := HKX.out _ HX25.out
     cases hpl : P13.places t.cols x.cols
     case none =>
      rw [hpl] at h5
      dsimp only at h5
      subst h5
      have HR := Lib.hid (show P13.indexes s x = .error 132 by rw [HIX3.out, hpl])
      clear hpl hx5
      go_wp2_with (first | (refine lw h0' Tryz.underlying25 ?_) | (refine pw h2' ?_; intro wZ hpZ))
      exact bodyPost_ret (results_row1 rfl rfl rfl hpZ.blk Tryz.underlying25 rfl (by kernel_rfl)) rfl (SchPost.err HR.out hpZ (Xk.Ext.trans HX1.out HX25.out) (by omega) hB)
     case some r =>
      rw [hpl] at h5
      dsimp only at h5
      obtain ⟨rv, rfl, hsr⟩ := h5
      obtain ⟨pr, cr, rfl⟩ := hsr.len
      have hrl := P13.places_len hpl
      have HTW := Lib.hid (twiceI_any w5 hsr (by omega))
      have HRL := Lib.hid hrl
      have hix := HIX3.out
      rw [hpl] at hix
      dsimp only at hix
      have HIX4 := Lib.hid hix
      have HSR := Lib.hid hsr
      clear hpl hsr hix hx5 hrl
      go_wp2_with fail
      refine HTW.out.mono ?_
      rintro e w6 ⟨rfl, hx6⟩
      have HX26 := Lib.hid (Xk.Ext.trans HX25.out hx6)
      have HX56 := Lib.hid hx6
      clear kn ku kcl l2 h0' h2' hx6
      obtain ⟨kn, ku, kcl, l2, h0', h2'⟩ := HKX.out _ HX26.out
      cases htw : P13.twice r
      case true =>
       have HR := Lib.hid (show P13.indexes s x = .error 133 by rw [HIX4.out, if_pos htw])
       clear htw
       go_wp2_with (first | (refine lw h0' Tryz.underlying25 ?_) | (refine pw h2' ?_; intro wZ hpZ))
       exact bodyPost_ret (results_row1 rfl rfl rfl hpZ.blk Tryz.underlying25 rfl (by kernel_rfl)) rfl (SchPost.err HR.out hpZ (Xk.Ext.trans HX1.out HX26.out) (by omega) hB)
      case false =>
       have HR := Lib.hid (show P13.indexes s x = .ok (s.set i { t with keys := t.keys ++ [{ name := x.name, cols := r, uniq := x.unique }] }) by rw [HIX4.out, if_neg (by rw [htw]; simp)])
       clear htw
       have hbk : ∀ W : World, (Instr.build 100 #[(0, bs x.name), (1, .slice pr r.length cr), (2, .bool x.unique)]).run Tryz.prog W = .ok (.agg #[bs x.name, .slice pr r.length cr, .bool x.unique, .bool false]) W := fun W => by kernel_rfl
       have kts : w6.cell? ⟨w.heap.size, 0, none⟩ = some (.slice (some ⟨gT, 0, none⟩) s.length cs) := by simp [World.cell?, h0']
       have kt6 : w6.cell? ⟨w2.heap.size, 2, none⟩ = some (.slice pk t.keys.length dk) := by simp [World.cell?, ((Xk.Ext.trans HX45.out HX56.out).block _ l4t).trans HB4.out]
       have l60 := World.block_lt_of_cell? _ _ kts
       have l6t : w2.heap.size < w6.heap.size := World.block_lt_of_cell? _ _ kt6
       have hszw : w1.heap.size ≤ wc.heap.size := HX24.out.size
       have hx26 := Xk.Ext.trans HX3.out (Xk.Ext.trans HX34.out (Xk.Ext.trans HX45.out HX56.out))
       have hpk : ∀ b, (Value.slice pk t.keys.length dk).ownBlock = some b → b < w.heap.size ∧ B ≤ b ∧ κ b = i + 1 ∧ gT ≠ b := fun b hb => by
        obtain ⟨⟨⟨⟨⟨h1, h0⟩, h2⟩, h3⟩, -⟩, h5⟩ := HUK.out.lt b hb
        exact ⟨h0, h1, h3, h2⟩
       obtain ⟨us, -, how, hus, hu2, hu3, hu4⟩ := HUK.out.keep stab_ky (w' := w6) (S' := fun b => (B ≤ b ∧ (b < w.heap.size ∨ w1.heap.size ≤ b)) ∧ ¬ gT = b) (fun b _ hl => hx26.block b hl) (fun b h _ => ⟨⟨h.1.1.1.1, .inl h.1.1.1.2⟩, h.1.1.2⟩)
       have hkr : kyR (fun b => ((B ≤ b ∧ (b < w.heap.size ∨ w1.heap.size ≤ b)) ∧ ¬ gT = b) ∧ ¬ (Value.slice pk t.keys.length dk).ownBlock = some b) w6 { name := x.name, cols := r, uniq := x.unique } [bs x.name, .slice pr r.length cr, .bool x.unique, .bool false] :=
        ⟨_, rfl, HSR.out.keep (fun b _ hl => HX56.out.block b hl) (fun b hb _ => ⟨⟨⟨by omega, .inr (by omega)⟩, fun e => by omega⟩, fun e => by have := (hpk b e).1; omega⟩) (fun _ _ h => h)⟩
       have HOZ7 := Lib.hid (HOZ.out.keep (stab_ot κ) (w' := w6) (S' := fun b => B ≤ b ∧ (b < w.heap.size ∨ w1.heap.size ≤ b)) (fun b _ hl => hx26.block b hl) (fun b h _ => ⟨h.1, .inl h.2⟩))
       have HC7 := Lib.hid (range_same HRT.out (hx26.block gT hgT) 2 _ rfl)
       obtain ⟨-, curT, hcT, -⟩ := HOZ7.out.mem
       have HCT := Lib.hid hcT
       have HU4 := Lib.hid hu4
       have HKR := Lib.hid hkr
       have HPK := Lib.hid hpk
       have HUS := Lib.hid hus
       have H70 := Lib.hid h0'
       have H72 := Lib.hid h2'
       have l7T := (Array.getElem?_eq_some_iff.1 hcT).1
       have l72 := (Array.getElem?_eq_some_iff.1 h2').1
       have HF : Hid (∀ W, Xe.ES (Xe.specOf 100 4 (t.keys.length + 1) (us.flatten ++ [bs x.name, .slice pr r.length cr, .bool x.unique, .bool false]) (.slice pk t.keys.length dk)) w6.drew W → W.cell? ⟨w.heap.size, 0, none⟩ = some (.slice (some ⟨gT, 0, none⟩) s.length cs) ∧ W.cell? ⟨w2.heap.size, 2, none⟩ = some (.slice pk t.keys.length dk) ∧ W.cell? ⟨w.heap.size + 1, 6, none⟩ = some (bs x.name) ∧ W.cell? ⟨w.heap.size + 1, 8, none⟩ = some (.bool x.unique) ∧ w.heap.size < W.heap.size ∧ w.heap.size + 1 < W.heap.size ∧ w2.heap.size < W.heap.size) := Lib.hid fun W hx => by
        have hn : ∀ y, w.heap.size ≤ y → ∀ q ∈ Xe.specOf 100 4 (t.keys.length + 1) (us.flatten ++ [bs x.name, .slice pr r.length cr, .bool x.unique, .bool false]) (.slice pk t.keys.length dk), q.1 ≠ y := fun y hy q hq e => by
         have := (hpk _ (Xe.specOf_block hq)).1
         omega
        have hs := hx.2.2.2.1
        simp only [World.size_drew] at hs
        have d : ∀ b o v, w.heap.size ≤ b → w6.cell? ⟨b, o, none⟩ = some v → W.cell? ⟨b, o, none⟩ = some v := fun b o v hb hc => hx.cell (show w6.drew.cell? ⟨b, o, none⟩ = some v from hc) (hn b hb)
        exact ⟨d _ _ _ (by omega) kts, d _ _ _ HW2.out kt6, d _ _ _ (by omega) kn, d _ _ _ (by omega) ku, by omega, by omega, by omega⟩
       obtain ⟨ks, hks⟩ : ∃ ks : Xe.Specs, ks = Xe.specOf 100 4 (t.keys.length + 1) (us.flatten ++ [bs x.name, .slice pr r.length cr, .bool x.unique, .bool false]) (.slice pk t.keys.length dk) := ⟨_, rfl⟩
       have HKS := Lib.hid hks
       have HSB : Hid (∀ k ∈ ks, (.slice pk t.keys.length dk : Value).ownBlock = some k.1 ∧ k.1 < (w6).heap.size) := Lib.hid fun k hk => by
        rw [hks] at hk
        exact ⟨Xe.specOf_block hk, ((how).lt _ (Xe.specOf_block hk)).2⟩
       have HS6 : Hid (∀ k ∈ ks, (.slice pk t.keys.length dk : Value).ownBlock = some k.1 → k ∈ Xe.specOf 100 4 (t.keys.length + 1) (us.flatten ++ [bs x.name, .slice pr r.length cr, .bool x.unique, .bool false]) (.slice pk t.keys.length dk)) := Lib.hid fun k hk _ => by rw [hks] at hk; exact hk
       have HVL : Hid (∀ b, (.slice pk t.keys.length dk : Value).ownBlock = some b → b < (w6).heap.size) := Lib.hid fun b hb => ((how).lt b hb).2
       have HOA := Lib.hid (how)
       clear hks
       rw [← HKS.out] at HF
       obtain ⟨i0, hi, hz0, hz1, hz2⟩ := infoParts Tryz.infoKey
       have Hi := Lib.hid hi
       have Hz0 := Lib.hid hz0
       have Hz1 := Lib.hid hz1
       have Hz2 := Lib.hid hz2
       clear hi hz0 hz1 hz2
       clear how hu4 hkr hpk hus hx26 h0' h2' kts kt6 kn ku l60 l6t l2 kcl hcT
       go_upto_region 14 with fail
       refine Xe.wp_region_rel (E := Xe.ES ks) (Xe.pre_ES _) 15 (Xe.O2 12 _ 99 none) (Xe.O2_lt HVL.out (fun b hb => by cases hb)) (Xe.O2_ne (fun b hb e => by cases e)) [(11, Xe.newRow (w6).heap.size [bs x.name, .slice pr r.length cr, .bool x.unique, .bool false] 100), (12, Xe.appF 100 4 (w6).heap.size (.slice pk t.keys.length dk) t.keys.length us.flatten [bs x.name, .slice pr r.length cr, .bool x.unique, .bool false])] (by kernel_rfl) (by kernel_rfl) (Xe.stable_es (by
               intro y hy
               simp only [List.mem_cons, List.not_mem_nil, or_false] at hy
               rcases hy with rfl | rfl
               ·exact Xe.newRow.es fun k hk => (HSB.out k hk).2
               ·exact Xe.appFact.es HS6.out fun k hk => (HSB.out k hk).2)) ?_
       simp only [List.take_succ_cons, List.take_zero, List.drop_succ_cons, List.drop_zero]
       repeat (first
        | ((first | refine Xe.rel_det (Xe.pre_ES _) (Xk.wanted_none (by rfl)) (by rfl) (fun K hK => ?_) | refine Xe.rel_det (Xe.pre_ES _) (by rfl) (by rfl) (fun K hK => ?_)); apply Exists.intro; refine ⟨fun W hx hp => ?_, ?_⟩; (obtain ⟨f1, f2, f3, f4, f5, f6, f7⟩ := HF.out _ hx; go_simp; first | exact ⟨rfl, rfl⟩ | ((try refine ⟨by kernel_rfl, ?_⟩); (fail))); (go_simp; refine hK _ ?_; clear hK K))
        | (refine Xe.rel_skip (by rfl) (fun K hK => ?_); go_simp; refine hK _ ?_; clear hK K))
       (refine Xe.rel_make (Xe.pre_ES _) (by rfl) (by rfl) (fun W hx hp => ?_) (fun ynew K hK => ?_); (go_simp; exact Xe.new_row _ _ _ _ (by first | rfl | kernel_rfl) (by have := hx.2.2.2.1; simpa using this)); (go_simp; refine hK _ ?_; clear hK K))
       (refine Xe.rel_make (Xe.pre_ES _) (by rfl) (by rfl) (fun W hx hp => ?_) (fun z1 K hK => ?_); (obtain ⟨g, rfl, hg, hc⟩ := Xe.facts_head hp (by kernel_rfl); exact Xe.make_app1 _ _ _ 30 (by rfl) 100 i0 _ 4 48 Tryz.underlying30 Hi.out Hz0.out Hz1.out Hz2.out rfl (by decide) (.slice pk t.keys.length dk) t.keys.length us.flatten [bs x.name, .slice pr r.length cr, .bool x.unique, .bool false] (by rfl) (hx.own (m := 1) (Xo.own_drew HOA.out) HS6.out) g 1 (by rfl) (by rfl) hc (one_all (by kernel_rfl)) (by omega) (by have := hx.2.2.2.1; simpa using this) (by rw [HKS.out]; exact fun k hk => hk) (by rfl)); (go_simp; refine hK _ ?_; clear hK K))
       repeat (first
        | ((first | refine Xe.rel_det (Xe.pre_ES _) (Xk.wanted_none (by rfl)) (by rfl) (fun K hK => ?_) | refine Xe.rel_det (Xe.pre_ES _) (by rfl) (by rfl) (fun K hK => ?_)); apply Exists.intro; refine ⟨fun W hx hp => ?_, ?_⟩; (obtain ⟨f1, f2, f3, f4, f5, f6, f7⟩ := HF.out _ hx; go_simp; first | exact ⟨rfl, rfl⟩ | ((try refine ⟨by kernel_rfl, ?_⟩); (fail))); (go_simp; refine hK _ ?_; clear hK K))
        | (refine Xe.rel_skip (by rfl) (fun K hK => ?_); go_simp; refine hK _ ?_; clear hK K))
       refine Xe.rel_nil (fun w8 hx hp hg => ?_)
       simp only [Xk.factsAll] at hp
       obtain ⟨p1', -, -⟩ := hp
       obtain ⟨z8, cz8, rfl, ho8, hk8⟩ := p1'.form
       have hg8 := Xe.ES.grown (e := 100) (size := 4) (n := 0) (xs := []) hx HSB.out
       have h8T := (hg8.block gT l7T (fun e => (HPK.out _ e.symm).2.2.2 rfl))
       have c8 : w8.cell? ⟨gT, i * 4 + 2, none⟩ = some (.slice pk t.keys.length dk) := by rw [World.cell?_of_block h8T]; exact HC7.out
       have f8 := frozen_of_row w8 gT (i * 4 + 2) _ _ (h8T.trans HCT.out)
       have l8 := World.block_lt_of_cell? _ _ c8
       have HO8 := Lib.hid ho8
       have HG8 := Lib.hid hg8
       have HK8 := Lib.hid hk8
       clear hx p1' ho8 hg8 hk8 hg h8T HOA HSB HS6 HVL HKS HF hbk
       go_upto_region 15 with fail
       have hpw : ∀ b, (Value.slice pk t.keys.length dk).ownBlock = some b → b < w.heap.size := fun b hb => (HPK.out b hb).1
       have h9o : ∀ b, b ≠ gT → (w8.setCell ⟨gT, i * 4 + 2, none⟩ (.slice (some ⟨z8, 0, none⟩) (t.keys.length + 1) cz8)).heap[b]? = w8.heap[b]? := fun b hb => heap_setCell_other w8 ⟨gT, i * 4 + 2, none⟩ b _ (fun e => hb (by simpa using e))
       have h90 := (h9o w.heap.size (by omega)).trans ((HG8.out.block _ (Array.getElem?_eq_some_iff.1 H70.out).1 (fun e => by have := hpw _ e.symm; omega)).trans H70.out)
       have h92 := (h9o (w.heap.size + 2) (by omega)).trans ((HG8.out.block _ l72 (fun e => by have := hpw _ e.symm; omega)).trans H72.out)
       have hk9 : Kept B [] w6 (w8.setCell ⟨gT, i * 4 + 2, none⟩ (.slice (some ⟨z8, 0, none⟩) (t.keys.length + 1) cz8)) := Kept.setCell (Kept.grown (Kept.refl _ _ _) HG8.out (fun b hb => (HPK.out b hb).2.1)) (.inl hST.1) _ _
       have hp := Own.push (x := ({ name := x.name, cols := r, uniq := x.unique } : P13.Ky)) stab_ky HUS.out (fun b hb => ⟨⟨by omega, .inr (by omega)⟩, fun e => by omega⟩) hu2 hu3 HU4.out HG8.out HO8.out (fun b hb => by cases hb; exact HK8.out) rfl HKR.out
       have hsc := OSch.index (v' := .slice (some ⟨z8, 0, none⟩) (t.keys.length + 1) cz8) HOZ7.out HTI.out HC7.out (fun b hb => (HPK.out b hb).2.2) HG8.out (hp.slc stab_ky (by decide))
       generalize w8.setCell ⟨gT, i * 4 + 2, none⟩ (.slice (some ⟨z8, 0, none⟩) (t.keys.length + 1) cz8) = w9 at *
       have HSW := Lib.hid hsc
       have HK9 := Lib.hid hk9
       clear hsc hk9 hp h9o c8 f8 hpw
       go_wp2_with (first | (refine lw h90 Tryz.underlying25 ?_) | (refine pw h92 ?_; intro wZ hpZ))
       refine bodyPost_ret (results_row1 rfl rfl rfl hpZ.blk Tryz.underlying25 rfl (by kernel_rfl)) rfl ⟨⟨_, _, _, by rw [HR.out]; rfl, fun s' hs' => ?_⟩, ?_⟩
       ·rw [HR.out] at hs'
        cases hs'
        exact HSW.out.keep (fun b hb _ => hpZ.rest b (by omega)) (fun b hb _ => hb.1)
       ·have hk := ((Kept.of_ext (B := B) (ks := []) (Xk.Ext.trans HX1.out HX26.out))).trans HK9.out
        exact ⟨hpZ.os.trans hk.os, hpZ.tape.trans hk.tape, hpZ.output.trans hk.output, by rw [hpZ.size]; exact hk.size, fun b h1 h2 h3 => (hpZ.rest b (by omega)).trans (hk.block b h1 h2 h3)⟩
end Go.Proofs.YtlpcdpkgnfdpeaaGreatDoor
namespace P12
def isCS (x : St) : Prop := (x.kind = 1 ∧ tabOk x.tb x.keyCols = true ∧ x.tb.checks = []) ∨ (x.kind = 3 ∧ isName x.name = true ∧ isName x.on = true ∧ some x.cols 16 isName = true)
end P12
namespace Go.Proofs.YtlpcdpkgnfdpeaaGreatDoor
open Go.RowKit
theorem checks_nil {S : Nat → Prop} {w : World} {l : List P12.E} {v : Value} (hq : l = []) (h : SlcAt S w 10 (exprR S w) l v) (W : World) (hx : Xk.Ext w W) :
  Calls Tryz.prog 47 #[v, .func (.func 17) #[] #[]] W fun e w' => e = .returned (.bool true) ∧ Xk.Ext W w' := by
 subst hq
 exact allOfExpr ent_isExpr W (h.ext1 hx) (by simp) (fun x u _ hu => ExprAt.form hu) (fun x _ _ _ _ _ _ _ _ _ _ hm => by cases hm)
theorem is_create (x : P12.St) (hx : x = P12.keptOf x) (hk : P12.isCS x) (hwm : P12.maybeE x.wher = true) (hjm : P12.maybeE x.join = true) (S : Nat → Prop) (w : World) (l : List Value) (h : StmtIn S w x l) : Calls Tryz.prog 9 #[.agg l.toArray] w fun e w' => e = .returned (.bool true) ∧ Xk.Ext w w' := by
 obtain ⟨tc, tk, tq, kc, cols, rows, sets, wh, items, frm, jn, grp, ord, h⟩ := h
 have hSame := fun W => same_at h hwm hjm W
 rcases hk with ⟨hk, ho, hq⟩ | ⟨hk, h1, h2, h3⟩
 ·have hl := form_1 h hx hk
  obtain ⟨p1, c1, rfl⟩ := h.tc.len
  obtain ⟨p2, c2, rfl⟩ := h.tk.len
  obtain ⟨p3, c3, rfl⟩ := h.tq.len
  obtain ⟨p4, c4, rfl⟩ := h.kc.len
  simp only [P12.tabOk, Bool.and_eq_true, decide_eq_true_eq, beq_iff_eq, List.all_eq_true] at ho
  obtain ⟨⟨⟨⟨⟨⟨a1, a2⟩, a3⟩, a4⟩, a5⟩, a6⟩, a7⟩ := ho
  refine is_tab _ hk _ p1 p2 p3 p4 _ _ _ _ c1 c2 c3 c4 w l hl (fun W hx' => ?_) (fun W => kept_tab _ hk _ p1 p2 p3 p4 _ _ _ _ c1 c2 c3 c4 l hl W) hSame
  have hkc := h.kc
  rw [a4]
  rw [a4] at hkc
  refine isTable_of _ a1 p1 p2 p3 p4 _ _ _ c1 c2 c3 c4 (by omega) (by omega) W (fun j hj => ?_) (fun j hj => ?_) (fun W2 hx2 => checks_nil hq h.tq W2 (Xk.Ext.trans hx' hx2)) (fun W2 hx2 => cols_all h.tc (by omega) (by simpa [List.all_eq_true] using a7) W2 (Xk.Ext.trans hx' hx2))
  ·obtain ⟨g, u, rfl, hu, hr⟩ := slc_elem h.tk hj
   have hu' : u = [.string ⟨#[]⟩, nilS, .bool true, .bool _] := hu
   subst hu'
   exact ⟨g, _, rfl, range_same hr (hx'.block g (World.block_lt_of_cell? _ _ (hr 0 _ rfl)))⟩
  ·have hj2 : j < x.keyCols.length := by omega
   have hkc2 := h.kc
   obtain ⟨g, u, hp, hu, hr⟩ := slc_elem hkc2 hj2
   obtain ⟨v, rfl, hv⟩ := hu
   obtain ⟨p, c, rfl⟩ := hv.len
   have hc := hr 0 _ rfl
   rw [Nat.mul_one, Nat.add_zero] at hc
   exact ⟨g, p, _, c, hp, Xk.ext_cell hx' hc, fun W2 hx2 => names_some hv (a5 _ (List.getElem_mem hj2)) W2 (Xk.Ext.trans hx' hx2)⟩
 ·have hl := form_3 h hx hk
  have hn := fun W hx' => names_some h.cols h3 W hx'
  obtain ⟨p1, c1, rfl⟩ := h.cols.len
  exact is_idx _ hk _ _ _ p1 _ c1 h1 h2 w l hl hn (fun W => kept_idx _ hk _ _ _ p1 _ c1 l hl W) hSame
theorem print_create {S : Nat → Prop} {w : World} {x : P12.St} {l : List Value} (hx : x = P12.keptOf x) (ho : P12.isCS x) (hwm : P12.maybeE x.wher = true) (hjm : P12.maybeE x.join = true) (hE : Env w) (h : StmtIn S w x l) (hb : (P12.print x).length ≤ 1000000) :
  Calls Tryz.prog 36 #[.agg l.toArray] w fun r w' => r = .returned (.tuple #[bs (P12.print x), .int .i64 0]) ∧ Xk.Ext w w' := by
 have hI : ∀ W, Xk.Ext w W → Calls Tryz.prog 9 #[.agg l.toArray] W fun e w' => e = .returned (.bool true) ∧ Xk.Ext W w' := fun W hx' => is_create x hx ho hwm hjm S W l (h.at hx')
 obtain ⟨tc, tk, tq, kc, cols, rows, sets, wh, items, frm, jn, grp, ord, h⟩ := h
 rcases ho with ⟨hk, ho, hq⟩ | ⟨hk, h1, h2, h3⟩
 ·have hp : P12.print x = P12.tabText x.tb x.keyCols := by unfold P12.print; rw [if_pos hk]
  have hl := form_1 h hx hk
  obtain ⟨p1, c1, rfl⟩ := h.tc.len
  obtain ⟨p2, c2, rfl⟩ := h.tk.len
  obtain ⟨p3, c3, rfl⟩ := h.tq.len
  obtain ⟨p4, c4, rfl⟩ := h.kc.len
  rw [hp] at hb ⊢
  have ht := ho
  unfold P12.tabOk at ht
  simp only [Bool.and_eq_true, decide_eq_true_eq, beq_iff_eq, List.all_eq_true] at ht
  obtain ⟨⟨⟨⟨⟨⟨g1, g2⟩, g3⟩, g4⟩, g5⟩, g6⟩, g7⟩ := ht
  refine print_tab _ hk x.tb.name p1 p2 p3 p4 _ _ _ _ c1 c2 c3 c4 l hl w _ (by omega) (fun W hxW => ?_) hI
  have h4' : SlcAt S W 1 (strsR S W) x.keyCols (.slice p4 x.keyCols.length c4) := h.kc.keep (fun b _ hl => hxW.block b hl) (fun b hb _ => hb) (fun a u hu => by
   obtain ⟨v, e, hv⟩ := hu
   exact ⟨v, e, hv.ext1 hxW⟩)
  exact table_any x.tb.name x.tb.cols x.tb.keys x.keyCols x.tb.checks p1 p2 p3 p4 c1 c2 c3 c4 _ l hl W (hE.ext hxW) (h.tc.ext1 hxW) (h.tk.ext1 hxW) (h.tq.extE hxW) h4' g4 (fun c hc => ⟨(g7 c hc).1.2, (g7 c hc).2⟩) (fun k hk => (some_parts (g5 k hk)).1.2) (fun e he => by rw [hq] at he; cases he) g3 hb
 ·obtain ⟨q1, q2⟩ := some_parts h3
  have hne : x.cols ≠ [] := fun e => by rw [e] at q1; simp at q1
  have hc : P12.colsText x.cols = [32, 40] ++ P12.join x.cols ++ [41] := by unfold P12.colsText; rw [if_neg hne]
  have hl := form_3 h hx hk
  obtain ⟨p1, c1, rfl⟩ := h.cols.len
  have hn := P12.names_len q2
  have b1 := P12.isName_len h1
  have b2 := P12.isName_len h2
  have hC : ∀ W, Xk.Ext w W → _ := fun W hxW => names_row h.cols q1.2 (by omega) hxW
  cases hu : x.unique with
  | true =>
   have hp : P12.print x = [67, 82, 69, 65, 84, 69, 32, 85, 78, 73, 81, 85, 69, 32, 73, 78, 68, 69, 88, 32] ++ x.name ++ [32, 79, 78, 32] ++ x.on ++ ([32, 40] ++ P12.join x.cols ++ [41]) := by
    unfold P12.print; rw [if_neg (by omega), if_neg (by omega), if_pos hk, hu, hc]; rfl
   rw [hu] at hl
   rw [hp]
   exact print_idxu _ hk _ _ (by omega) (by omega) p1 _ c1 (by omega) l hl w _ (by omega) hC hI
  | false =>
   have hp : P12.print x = [67, 82, 69, 65, 84, 69, 32, 73, 78, 68, 69, 88, 32] ++ x.name ++ [32, 79, 78, 32] ++ x.on ++ ([32, 40] ++ P12.join x.cols ++ [41]) := by
    unfold P12.print; rw [if_neg (by omega), if_neg (by omega), if_pos hk, hu, hc]; rfl
   rw [hu] at hl
   rw [hp]
   exact print_idxi _ hk _ _ (by omega) (by omega) p1 _ c1 (by omega) l hl w _ (by omega) hC hI
def AppPost (w : World) (res : Except Int P13.Sch) (e : Ending) (w' : World) : Prop :=
 (∃ p n c, e = .returned (.tuple #[.agg #[.slice p n c], .int .i64 (match res with | .error k => k | .ok _ => 0)]) ∧ ∀ s', res = .ok s' → SchAt (fun b => w.heap.size ≤ b) w' s' (.slice p n c)) ∧ Xk.Ext w w'
theorem applied_any {S S2 : Nat → Prop} {s : P13.Sch} {v : Value} {x : P12.St} {lx : List Value} (w : World) (h : SchAt S2 w s v) (hs : Low s) (hcp : ∀ t ∈ s, 0 < t.cols.length) (hx : StmtIn S w x lx) (hk : P12.isCS x) (hxc : x.kind = 1 → 0 < x.tb.cols.length) :
  Calls Tryz.prog 10 #[.agg #[v], .agg lx.toArray] w (AppPost w (P13.applied s x)) := by
 have hln := hx.length
 obtain ⟨p, c, rfl⟩ := h.len
 obtain ⟨kd, rest, hkd, hrest⟩ : ∃ kd rest, kd = x.kind ∧ lx = .int .i64 kd :: rest := by
  obtain ⟨tc, tk, tq, kc, cols, rows, sets, wh, items, frm, jn, grp, ord, hx⟩ := hx
  exact ⟨_, _, rfl, hx.form⟩
 have HKD := Lib.hid hkd
 have HH := Lib.hid h
 have HX := Lib.hid hx
 have HS := Lib.hid hs
 have HCP := Lib.hid hcp
 have HXC := Lib.hid hxc
 have HLN := Lib.hid hln
 obtain ⟨lz, hlz⟩ : ∃ lz, lz = lx := ⟨_, rfl⟩
 rw [← hlz] at HX HLN
 rw [hrest] at hlz ⊢
 have HLZ := Lib.hid hlz
 clear h hx hs hcp hxc hln hrest hlz hkd
 go_enter Tryz.func10, Tryz.ntmps10
 go_upto_region 1 with fail
 obtain ⟨w1, hw1, h0, h1, h2, hx1, hz1⟩ := new3 w (.cells #[.slice p s.length c] 25) (.cells (.int .i64 kd :: rest).toArray 46) (.cells #[nilS] 25)
 rw [← hw1]
 clear hw1
 have HX1 := Lib.hid hx1
 have HCPY := Lib.hid (copy_any w1 (HH.out.ext hx1) HS.out HCP.out)
 have H0 := Lib.hid h0
 have H1 := Lib.hid h1
 have H2 := Lib.hid h2
 go_wp2_with (first | (refine lw h0 Tryz.underlying25 ?_))
 refine HCPY.out.mono ?_
 rintro e w2 ⟨v', rfl, ho, hx2⟩
 obtain ⟨ps, cs, rfl⟩ := ho.tabs.form
 have h02 := (hx2.block _ (by omega)).trans H0.out
 have h12 := (hx2.block _ (by omega)).trans H1.out
 have h22 := (hx2.block _ (by omega)).trans H2.out
 have HO := Lib.hid ho
 have HX2 := Lib.hid hx2
 have H12 := Lib.hid h12
 have H22 := Lib.hid h22
 have hz2 := hx2.size
 clear h0 h1 h2 hx1 ho hx2 h12 h22
 go_upto_region 2 with (first | (refine pw h02 ?_; intro w3 hp3))
 have hx3 : Xk.Ext w w3 := puts_ext hp3 (Xk.Ext.trans HX1.out HX2.out) (Nat.le_refl _)
 have h03 := hp3.blk
 have h13 := (hp3.rest (w.heap.size + 1) (by omega)).trans H12.out
 have h23 := (hp3.rest (w.heap.size + 2) (by omega)).trans H22.out
 have ho3 := HO.out.keep (B' := w1.heap.size) (w' := w3) (fun b hb _ => hp3.rest b (by omega)) (Nat.le_refl _)
 have hz3 := hp3.size
 have HX3 := Lib.hid hx3
 have HO3 := Lib.hid ho3
 have H13 := Lib.hid h13
 have H23 := Lib.hid h23
 have kk : w3.cell? ⟨w.heap.size + 1, 0, none⟩ = some (.int .i64 kd) := by simp [World.cell?, h13]
 have lk := World.block_lt_of_cell? _ _ kk
 have hsz3 : w1.heap.size ≤ w3.heap.size := by omega
 have hin : StmtIn (fun b => S b ∧ b < w.heap.size) w3 x (.int .i64 kd :: rest) := by
  rw [← HLZ.out]
  exact HX.out.keep (fun b _ hl => hx3.block b hl) (fun b hb hl => ⟨hb, hl⟩)
 have HIN := Lib.hid hin
 have hi37 : (Tryz.prog.info? 46).map (·.size) = some (Value.int .i64 kd :: rest).toArray.size := by
  rw [← HLZ.out, List.size_toArray, HLN.out]
  kernel_rfl
 clear hp3 hx3 ho3 h13 h23 hin hz3 HCPY H0 H1 H2 H12 H22 HO
 have HFIN : Hid (∀ (res : Except Int P13.Sch) e w4, P13.applied s x = res → SchPost w1.heap.size w3 res e w4 → (∃ p n c, ∃ kz : Int, e = .returned (.tuple #[.agg #[.slice p n c], .int .i64 kz]) ∧ w4.heap[w.heap.size + 2]? = some (.cells #[nilS] 25) ∧ ∀ wZ, Puts (w.heap.size + 2) #[.slice p n c] 25 w4 wZ → AppPost w (P13.applied s x) (.returned (.tuple #[.agg #[.slice p n c], .int .i64 kz])) wZ)) := Lib.hid fun res e w4 hr ⟨⟨p, n, c, he, hs⟩, hk⟩ => by
  refine ⟨p, n, c, _, he, (hk.block _ (by omega) (by omega) (by simp)).trans H23.out, fun wZ hpZ => ⟨⟨p, n, c, by rw [hr] <;> cases res <;> rfl, fun s' hs' => (hs s' (hr ▸ hs')).keep (fun b hb _ => hpZ.rest b (by omega)) (fun b hb _ => by omega)⟩, puts_ext hpZ ⟨hk.os.trans HX3.out.os, hk.tape.trans HX3.out.tape, hk.output.trans HX3.out.output, Nat.le_trans HX3.out.size hk.size, fun b hb => (hk.block b (by omega) (Nat.lt_of_lt_of_le hb HX3.out.size) (by simp)).trans (HX3.out.block b hb)⟩ (by omega)⟩⟩
 rcases hk with ⟨hk, ho, hq⟩ | ⟨hk, -, -, hc⟩
 ·have hap : P13.applied s x = P13.creates s x := by unfold P13.applied; rw [if_pos hk]
  have HAP := Lib.hid hap
  obtain rfl : kd = 1 := HKD.out.trans hk
  have HCR := Lib.hid (creates_any w3 hsz3 HO3.out.tabs HS.out HIN.out (fun b hb => by have := hb.2; omega) ho hq (HXC.out hk))
  have h13 := H13.out
  clear hap hk ho hq
  go_wp2_with (first | (refine lw h03 Tryz.underlying25 ?_) | (refine lw h13 Tryz.underlying46 ?_ (hi := hi37)))
  refine HCR.out.mono ?_
  rintro e w4 hpost
  obtain ⟨p', n', c', kz, rfl, h24, hfin⟩ := HFIN.out _ e w4 HAP.out hpost
  have HFN := Lib.hid hfin
  clear hpost hfin
  go_wp2_with (refine pw h24 ?_; intro wZ hpZ)
  exact bodyPost_ret (results_row1 (v := .int .i64 kz) rfl rfl rfl hpZ.blk Tryz.underlying25 rfl (by kernel_rfl)) rfl (HFN.out wZ hpZ)
 ·have hap : P13.applied s x = P13.indexes s x := by unfold P13.applied; rw [if_neg (by rw [hk]; decide), if_pos hk]
  have HAP := Lib.hid hap
  obtain rfl : kd = 3 := HKD.out.trans hk
  simp only [P12.some, Bool.and_eq_true, decide_eq_true_eq] at hc
  have HCR := Lib.hid (indexes_any w3 hsz3 HO3.out HS.out HIN.out (fun b hb => by have := hb.2; omega) (by omega) (by omega))
  have h13 := H13.out
  clear hap hk hc
  go_wp2_with (first | (refine lw h03 Tryz.underlying25 ?_) | (refine lw h13 Tryz.underlying46 ?_ (hi := hi37)))
  refine HCR.out.mono ?_
  rintro e w4 hpost
  obtain ⟨p', n', c', kz, rfl, h24, hfin⟩ := HFIN.out _ e w4 HAP.out hpost
  have HFN := Lib.hid hfin
  clear hpost hfin
  go_wp2_with (refine pw h24 ?_; intro wZ hpZ)
  exact bodyPost_ret (results_row1 (v := .int .i64 kz) rfl rfl rfl hpZ.blk Tryz.underlying25 rfl (by kernel_rfl)) rfl (HFN.out wZ hpZ)
theorem stab_stmt : Stab StmtIn := fun _ _ _ _ _ _ h hb hS => h.keep hb hS
structure DfAt (B gx : Nat) (nm : P12.T) (cs : P13.Cols) (ks : List Bool) (kc : List (List P12.T)) (rs : List P12.St) (col : Nat → Nat) (tc tk kv rv : Value) (w : World) : Prop where
 blk : w.heap[gx]? = some (.cells (tabL nm tc tk nilS kv) 46)
 tc : SlcAt (fun b => B ≤ b ∧ col b = 0) w 3 colR cs tc
 tk : Own (fun b => B ≤ b ∧ col b = 1) 100 4 (fun _ _ => keyR) ks tk w
 kv : Own (fun b => B ≤ b ∧ col b = 3) 35 1 strsR kc kv w
 rs : Own (fun b => B ≤ b ∧ col b = 4) 46 37 StmtIn rs rv w
 gx : B ≤ gx ∧ col gx = 9
section
variable {B gx : Nat} {nm : P12.T} {cs : P13.Cols} {ks : List Bool} {kc : List (List P12.T)} {rs : List P12.St} {col : Nat → Nat} {tc tk kv rv : Value} {w w' : World}
theorem DfAt.ext {col' : Nat → Nat} (h : DfAt B gx nm cs ks kc rs col tc tk kv rv w) (hx : ∀ b, B ≤ b → b < w.heap.size → w'.heap[b]? = w.heap[b]?) (hc : ∀ b, b < w.heap.size → col' b = col b) : DfAt B gx nm cs ks kc rs col' tc tk kv rv w' := by
 have hl := (Array.getElem?_eq_some_iff.1 h.blk).1
 exact ⟨(hx gx h.gx.1 hl).trans h.blk, h.tc.keep (fun b hb hl => hx b hb.1 hl) (fun b hb hl => ⟨hb.1, by rw [hc b hl]; exact hb.2⟩) (fun _ _ h => h), h.tk.keep stab_key (fun b hb hl => hx b hb.1 hl) (fun b hb hl => ⟨hb.1, by rw [hc b hl]; exact hb.2⟩), h.kv.keep stab_strs (fun b hb hl => hx b hb.1 hl) (fun b hb hl => ⟨hb.1, by rw [hc b hl]; exact hb.2⟩), h.rs.keep stab_stmt (fun b hb hl => hx b hb.1 hl) (fun b hb hl => ⟨hb.1, by rw [hc b hl]; exact hb.2⟩), h.gx.1, by rw [hc gx hl]; exact h.gx.2⟩
theorem DfAt.key (h : DfAt B gx nm cs ks kc rs col tc tk kv rv w) (hB : B ≤ w.heap.size) (hn : ∀ b, w.heap.size ≤ b → col b = 1) {us : List (List Value)} {v' : Value} {p : Bool} {u : List Value} (h2 : us.length = ks.length) (h3 : ∀ u ∈ us, u.length = 4) (h4 : ∀ (j : Nat) x u, ks[j]? = some x → us[j]? = some u → keyR x u)
  (hg : w.grownBy w' tk.ownBlock) (ho : w'.ownsRow 0 100 4 v' (ks.length + 1) (us.flatten ++ u)) (hk : ∀ b, v'.ownBlock = some b → tk.ownBlock = some b ∨ w.heap.size ≤ b) (hu : u.length = 4) (hx : keyR p u) : DfAt B gx nm cs (ks ++ [p]) kc rs col tc v' kv rv (w'.setCell ⟨gx, 3, none⟩ v') := by
 have hS : ∀ b, tk.ownBlock = some b → B ≤ b ∧ col b = 1 := fun b hb => (h.tk.lt b hb).1
 have hl := (Array.getElem?_eq_some_iff.1 h.blk).1
 have ho9 : ∀ b, b ≠ gx → (w'.setCell ⟨gx, 3, none⟩ v').heap[b]? = w'.heap[b]? := fun b hb => heap_setCell_other w' ⟨gx, 3, none⟩ b _ (fun e => hb (by simpa using e))
 have hoth : ∀ b, B ≤ b → col b ≠ 1 → col b ≠ 9 → b < w.heap.size → (w'.setCell ⟨gx, 3, none⟩ v').heap[b]? = w.heap[b]? := fun b _ hb h9 hl => (ho9 b (fun e => h9 (by rw [e]; exact h.gx.2))).trans (hg.block b hl (fun e => hb (hS b e.symm).2))
 have hgx := (hg.block gx hl (fun e => by have h1 := (hS gx e.symm).2; have h2 := h.gx.2; omega)).trans h.blk
 have hp := Own.push (x := p) stab_key (S := fun b => B ≤ b ∧ col b = 1) hS (fun b hb => ⟨by omega, hn b hb⟩) h2 h3 h4 hg ho hk hu hx
 refine ⟨heap_setCell_same w' gx 3 _ _ v' hgx, h.tc.keep (fun b hb hl => hoth b hb.1 (by omega) (by omega) hl) (fun b hb _ => hb) (fun _ _ h => h), hp.keep stab_key (fun b hb _ => ho9 b (fun e => by have := hb.2; have := h.gx.2; rw [e] at *; omega)) (fun b hb _ => hb), h.kv.keep stab_strs (fun b hb hl => hoth b hb.1 (by omega) (by omega) hl) (fun b hb _ => hb), h.rs.keep stab_stmt (fun b hb hl => hoth b hb.1 (by omega) (by omega) hl) (fun b hb _ => hb), h.gx⟩
theorem DfAt.cols (h : DfAt B gx nm cs ks kc rs col tc tk kv rv w) (hB : B ≤ w.heap.size) (hn : ∀ b, w.heap.size ≤ b → col b = 3) {us : List (List Value)} {v' : Value} {p : List P12.T} {u : List Value} (h2 : us.length = kc.length) (h3 : ∀ u ∈ us, u.length = 1) (h4 : ∀ (j : Nat) x u, kc[j]? = some x → us[j]? = some u → strsR (fun b => (B ≤ b ∧ col b = 3) ∧ ¬ kv.ownBlock = some b) w x u)
  (hg : w.grownBy w' kv.ownBlock) (ho : w'.ownsRow 0 35 1 v' (kc.length + 1) (us.flatten ++ u)) (hk : ∀ b, v'.ownBlock = some b → kv.ownBlock = some b ∨ w.heap.size ≤ b) (hu : u.length = 1) (hx : strsR (fun b => (B ≤ b ∧ col b = 3) ∧ ¬ kv.ownBlock = some b) w p u) : DfAt B gx nm cs ks (kc ++ [p]) rs col tc tk v' rv (w'.setCell ⟨gx, 5, none⟩ v') := by
 have hS : ∀ b, kv.ownBlock = some b → B ≤ b ∧ col b = 3 := fun b hb => (h.kv.lt b hb).1
 have hl := (Array.getElem?_eq_some_iff.1 h.blk).1
 have ho9 : ∀ b, b ≠ gx → (w'.setCell ⟨gx, 5, none⟩ v').heap[b]? = w'.heap[b]? := fun b hb => heap_setCell_other w' ⟨gx, 5, none⟩ b _ (fun e => hb (by simpa using e))
 have hoth : ∀ b, B ≤ b → col b ≠ 3 → col b ≠ 9 → b < w.heap.size → (w'.setCell ⟨gx, 5, none⟩ v').heap[b]? = w.heap[b]? := fun b _ hb h9 hl => (ho9 b (fun e => h9 (by rw [e]; exact h.gx.2))).trans (hg.block b hl (fun e => hb (hS b e.symm).2))
 have hgx := (hg.block gx hl (fun e => by have h1 := (hS gx e.symm).2; have h2 := h.gx.2; omega)).trans h.blk
 have hp := Own.push (x := p) stab_strs (S := fun b => B ≤ b ∧ col b = 3) hS (fun b hb => ⟨by omega, hn b hb⟩) h2 h3 h4 hg ho hk hu hx
 refine ⟨heap_setCell_same w' gx 5 _ _ v' hgx, h.tc.keep (fun b hb hl => hoth b hb.1 (by omega) (by omega) hl) (fun b hb _ => hb) (fun _ _ h => h), h.tk.keep stab_key (fun b hb hl => hoth b hb.1 (by omega) (by omega) hl) (fun b hb _ => hb), hp.keep stab_strs (fun b hb _ => ho9 b (fun e => by have := hb.2; have := h.gx.2; rw [e] at *; omega)) (fun b hb _ => hb), h.rs.keep stab_stmt (fun b hb hl => hoth b hb.1 (by omega) (by omega) hl) (fun b hb _ => hb), h.gx⟩
theorem DfAt.rest (h : DfAt B gx nm cs ks kc rs col tc tk kv rv w) (hB : B ≤ w.heap.size) (hn : ∀ b, w.heap.size ≤ b → col b = 4) {us : List (List Value)} {v' : Value} {p : P12.St} {u : List Value} (h2 : us.length = rs.length) (h3 : ∀ u ∈ us, u.length = 37) (h4 : ∀ (j : Nat) x u, rs[j]? = some x → us[j]? = some u → StmtIn (fun b => (B ≤ b ∧ col b = 4) ∧ ¬ rv.ownBlock = some b) w x u)
  (hg : w.grownBy w' rv.ownBlock) (ho : w'.ownsRow 0 46 37 v' (rs.length + 1) (us.flatten ++ u)) (hk : ∀ b, v'.ownBlock = some b → rv.ownBlock = some b ∨ w.heap.size ≤ b) (hu : u.length = 37) (hx : StmtIn (fun b => (B ≤ b ∧ col b = 4) ∧ ¬ rv.ownBlock = some b) w p u) : DfAt B gx nm cs ks kc (rs ++ [p]) col tc tk kv v' w' := by
 have hS : ∀ b, rv.ownBlock = some b → B ≤ b ∧ col b = 4 := fun b hb => (h.rs.lt b hb).1
 have hl := (Array.getElem?_eq_some_iff.1 h.blk).1
 have hoth : ∀ b, col b ≠ 4 → b < w.heap.size → w'.heap[b]? = w.heap[b]? := fun b hb hl => hg.block b hl (fun e => hb (hS b e.symm).2)
 exact ⟨(hoth gx (by have := h.gx.2; omega) hl).trans h.blk, h.tc.keep (fun b hb hl => hoth b (by omega) hl) (fun b hb _ => hb) (fun _ _ h => h), h.tk.keep stab_key (fun b hb hl => hoth b (by omega) hl) (fun b hb _ => hb), h.kv.keep stab_strs (fun b hb hl => hoth b (by omega) hl) (fun b hb _ => hb), Own.push (x := p) stab_stmt hS (fun b hb => ⟨by omega, hn b hb⟩) h2 h3 h4 hg ho hk hu hx, h.gx⟩
theorem DfAt.stmt (h : DfAt B gx nm cs ks kc rs col tc tk kv rv w) : StmtIn (fun b => B ≤ b ∧ b ≠ gx ∧ col b ≠ 4) w { kind := 1, tb := { name := nm, cols := cs, keys := ks }, keyCols := kc } (tabL nm tc tk nilS kv).toList := by
 have hm : ∀ i b, i ≠ 4 → i ≠ 9 → (B ≤ b ∧ col b = i) → b < w.heap.size → B ≤ b ∧ b ≠ gx ∧ col b ≠ 4 := fun i b h4 h9 hb _ => ⟨hb.1, fun e => h9 (by rw [← hb.2, e]; exact h.gx.2), by rw [hb.2]; exact h4⟩
 exact ⟨tc, tk, nilS, kv, nilS, nilS, nilS, noE, nilS, nilS, noE, nilS, nilS, rfl, h.tc.keep (fun _ _ _ => rfl) (fun b hb hl => hm 0 b (by decide) (by decide) hb hl) (fun _ _ h => h), (h.tk.slc stab_key (by decide)).keep (fun _ _ _ => rfl) (fun b hb hl => hm 1 b (by decide) (by decide) hb hl) (fun _ _ h => h), SlcAt.nil _ _ _ _,
  ((h.kv.keep stab_strs (fun _ _ _ => rfl) (fun b hb hl => hm 3 b (by decide) (by decide) hb hl)).slc stab_strs (by decide)), SlcAt.nil _ _ _ _, SlcAt.nil _ _ _ _, SlcAt.nil _ _ _ _, rfl, SlcAt.nil _ _ _ _, SlcAt.nil _ _ _ _, rfl, SlcAt.nil _ _ _ _, SlcAt.nil _ _ _ _⟩
end
structure DefOk (s : P13.Sch) : Prop where
 low : Low s
 pos : ∀ t ∈ s, 0 < t.cols.length
 cols : ∀ t ∈ s, ∀ k ∈ t.keys, ∀ c ∈ k.cols, c < t.cols.length
 uniq : ∀ t ∈ s, ∀ k ∈ t.keys, k.name = [] → k.uniq = true
 kpos : ∀ t ∈ s, ∀ k ∈ t.keys, 0 < k.cols.length
theorem Tryz.infoStmt : (Tryz.prog.info? 46).map (fun i => (i.zero, i.size, i.bytes)) = some (some (.agg (stmt0 0 0).toArray), 37, 576) := by kernel_rfl
abbrev idxL (nm on : P12.T) (un : Bool) (cols : Value) : List Value := stmtL 3 [] nilS nilS nilS nilS nm on un cols nilS nilS noE nilS nilS noE nilS nilS 0
theorem idxL_in {S : Nat → Prop} {w : World} {t : P13.Tb} {k : P13.Ky} {cols : Value} (h : SlcAt S w 1 strR (P13.colNames t.cols k.cols) cols) : StmtIn S w (P13.indexOf t k) (idxL k.name t.name k.uniq cols) :=
 ⟨nilS, nilS, nilS, nilS, cols, nilS, nilS, noE, nilS, nilS, noE, nilS, nilS, rfl, SlcAt.nil _ _ _ _, SlcAt.nil _ _ _ _, SlcAt.nil _ _ _ _, SlcAt.nil _ _ _ _, h, SlcAt.nil _ _ _ _, SlcAt.nil _ _ _ _, rfl, SlcAt.nil _ _ _ _, SlcAt.nil _ _ _ _, rfl, SlcAt.nil _ _ _ _, SlcAt.nil _ _ _ _⟩
def kB (l : List P13.Ky) : List Bool := (l.filter fun k => k.name == []).map (·.prim)
def kC (cs : P13.Cols) (l : List P13.Ky) : List (List P12.T) := (l.filter fun k => k.name == []).map fun k => P13.colNames cs k.cols
def kR (t : P13.Tb) (l : List P13.Ky) : List P12.St := (l.filter fun k => k.name != []).map (P13.indexOf t)
theorem kR_le (t : P13.Tb) (l : List P13.Ky) : (kR t l).length ≤ l.length := by unfold kR; rw [List.length_map]; exact List.length_filter_le _ _
theorem kB_le (l : List P13.Ky) : (kB l).length ≤ l.length := by unfold kB; rw [List.length_map]; exact List.length_filter_le _ _
theorem kC_le (cs : P13.Cols) (l : List P13.Ky) : (kC cs l).length ≤ l.length := by unfold kC; rw [List.length_map]; exact List.length_filter_le _ _
theorem k_named {k : P13.Ky} {l : List P13.Ky} {t : P13.Tb} (h : k.name.isEmpty = false) : kB (l ++ [k]) = kB l ∧ kC t.cols (l ++ [k]) = kC t.cols l ∧ kR t (l ++ [k]) = kR t l ++ [P13.indexOf t k] := by
 have h1 : ¬ k.name = [] := fun e => by rw [e] at h; cases h
 unfold kB kC kR
 simp [List.filter_append, h1]
theorem k_plain {k : P13.Ky} {l : List P13.Ky} {t : P13.Tb} (h : k.name.isEmpty = true) : kB (l ++ [k]) = kB l ++ [k.prim] ∧ kC t.cols (l ++ [k]) = kC t.cols l ++ [P13.colNames t.cols k.cols] ∧ kR t (l ++ [k]) = kR t l := by
 have h1 : k.name = [] := List.isEmpty_iff.1 h
 unfold kB kC kR
 simp [List.filter_append, h1]
theorem colsC_at {l : P13.Cols} : ∀ {c : Nat}, c < l.length → (colsC l)[c * 3]? = some (bs (l.getD c ([], 0, false)).1) := by
 induction l with
 | nil => intro c h; cases h
 | cons x l ih =>
  intro c h
  cases c with
  | zero => rfl
  | succ c =>
   rw [Nat.succ_mul]
   exact ih (by simpa using h)
theorem take_get {α : Type} {l : List α} {j : Nat} {k : α} (h : l[j]? = some k) : l.take (j + 1) = l.take j ++ [k] := by rw [List.take_add_one, h]; rfl
def DfRel (B gt gx : Nat) (wr : World) (t : P13.Tb) (ct : Array Value) (tc : Value) (j : Nat) (rv : Value) (wi : World) : Prop :=
 ∃ col tk kv, j ≤ t.keys.length ∧ Kept B [] wr wi ∧ wi.heap[gt]? = some (.cells ct 33) ∧ B ≤ gt ∧ col gt = 8 ∧ B ≤ wi.heap.size ∧ DfAt B gx t.name t.cols (kB (t.keys.take j)) (kC t.cols (t.keys.take j)) (kR t (t.keys.take j)) col tc tk kv rv wi
theorem defs_snoc (l : P13.Sch) (t : P13.Tb) : P13.defs (l ++ [t]) = P13.defs l ++ P13.createOf t :: kR t t.keys := by simp [P13.defs, P13.defsT, kR]
theorem create_eq {t : P13.Tb} (h : t.checks = []) : P13.createOf t = { kind := 1, tb := { name := t.name, cols := t.cols, keys := kB t.keys }, keyCols := kC t.cols t.keys } := by simp [P13.createOf, h, kB, kC]
theorem defs_le : ∀ (l : P13.Sch), (∀ t ∈ l, t.keys.length ≤ 1000) → (P13.defs l).length ≤ l.length * 1001
 | [], _ => by simp [P13.defs]
 | t :: l, h => by
  have ih := defs_le l (fun u hu => h u (by simp [hu]))
  have h1 := kR_le t t.keys
  have h2 := h t (by simp)
  have e : P13.defs (t :: l) = (P13.createOf t :: kR t t.keys) ++ P13.defs l := by simp [P13.defs, P13.defsT, kR]
  rw [e, List.length_append, List.length_cons, List.length_cons, Nat.succ_mul]
  omega
theorem own_cell {w : World} {B : Nat} {e : TypeId} {size n c g : Nat} {xs : List Value} (h : w.ownsRow B e size (.slice (some ⟨g, 0, none⟩) n c) n xs) (j : Nat) (u : Value) (hu : xs[j]? = some u) : w.cell? ⟨g, 0 + j, none⟩ = some u := by
 rcases h.2 with ⟨hv, -⟩ | ⟨g', cap, cur, hv, a1, a2, a3, a4, a5, a6⟩
 ·cases hv
 ·cases hv
  rw [← a6, List.getElem?_take] at hu
  split at hu
  ·simp only [World.cell?, a2, Option.isSome_none, Bool.false_eq_true, if_false, Nat.zero_add]
   simpa using hu
  ·cases hu
theorem own_same_cells {w : World} {B B' : Nat} {e e' : TypeId} {size n c g : Nat} {xs ys : List Value} (h : w.ownsRow B e size (.slice (some ⟨g, 0, none⟩) n c) n xs) (k : w.ownsRow B' e' size (.slice (some ⟨g, 0, none⟩) n c) n ys) : xs = ys := by
 rcases h.2 with ⟨hv, -⟩ | ⟨g', cap, cur, hv, a1, a2, a3, a4, a5, a6⟩
 ·cases hv
 ·rcases k.2 with ⟨hv', -⟩ | ⟨g'', cap', cur', hv', b1, b2, b3, b4, b5, b6⟩
  ·cases hv'
  ·cases hv
   cases hv'
   rw [a2] at b2
   injection (Option.some.inj b2) with h1 _
   rw [← a6, ← b6, h1]
theorem Own.pushL {α : Type} {S : Nat → Prop} {e : TypeId} {sz : Nat} {R : (Nat → Prop) → World → α → List Value → Prop} {xs ys : List α} {v v' : Value} {w w' : World} {us uy : List (List Value)} (hR : Stab R) (h1 : ∀ b, v.ownBlock = some b → S b) (hS : ∀ b, w.heap.size ≤ b → S b) (h2 : us.length = xs.length) (h3 : ∀ u ∈ us, u.length = sz)
  (h4 : ∀ (j : Nat) x u, xs[j]? = some x → us[j]? = some u → R (fun b => S b ∧ ¬ v.ownBlock = some b) w x u) (hg : w.grownBy w' v.ownBlock) (ho : w'.ownsRow 0 e sz v' (xs.length + ys.length) (us.flatten ++ uy.flatten)) (hp : 0 < ys.length)
  (hk : ∀ b, v'.ownBlock = some b → v.ownBlock = some b ∨ w.heap.size ≤ b) (h5 : uy.length = ys.length) (h6 : ∀ u ∈ uy, u.length = sz) (hx : ∀ (j : Nat) x u, ys[j]? = some x → uy[j]? = some u → R (fun b => S b ∧ ¬ v.ownBlock = some b) w x u) : Own S e sz R (xs ++ ys) v' w' := by
 have hmv : ∀ x u, R (fun b => S b ∧ ¬ v.ownBlock = some b) w x u → R (fun b => S b ∧ ¬ v'.ownBlock = some b) w' x u := fun x u h =>
  hR _ _ _ _ _ _ h (fun b hb hl => hg.block b hl (fun e => hb.2 e.symm)) (fun b hb hl => ⟨hb.1, fun e => by
   rcases hk b e with h | h
   ·exact hb.2 h
   ·omega⟩)
 refine ⟨us ++ uy, fun e => by have h := congrArg List.length e; rw [List.length_append, List.length_nil] at h; omega, by rw [List.length_append, List.flatten_append]; exact ho, fun b hb => (hk b hb).elim (h1 b) (hS b), by simp [h2, h5], fun y hy => ?_, fun j y c hy hc => hmv _ _ ?_⟩
 ·rcases List.mem_append.1 hy with hy | hy
  ·exact h3 y hy
  ·exact h6 y hy
 ·rcases Nat.lt_or_ge j xs.length with hj | hj
  ·rw [List.getElem?_append_left hj] at hy
   rw [List.getElem?_append_left (by omega)] at hc
   exact h4 j y c hy hc
  ·rw [List.getElem?_append_right hj] at hy
   rw [List.getElem?_append_right (by omega), h2] at hc
   exact hx _ y c hy hc
theorem definitions_any {S : Nat → Prop} {s : P13.Sch} {v : Value} (w : World) (h : SchAt S w s v) (hs : DefOk s) :
  Calls Tryz.prog 35 #[.agg #[v]] w fun e w' => ∃ o, e = .returned o ∧ SlcAt (fun b => w.heap.size ≤ b) w' 37 (StmtIn (fun b => w.heap.size ≤ b) w') (P13.defs s) o ∧ Xk.Ext w w' := by
 obtain ⟨p, c, rfl⟩ := h.len
 have HS := Lib.hid h
 have HL := Lib.hid hs
 have hsl := hs.low.tabs
 clear h hs
 go_enter Tryz.func35, Tryz.ntmps35
 go_upto_region 2 with fail
 have hx1 := extA w (.cells #[.slice p s.length c] 25)
 have hb1 := heap_new w (.cells #[.slice p s.length c] 25)
 have hz1 : (w.alloc (.cells #[.slice p s.length c] 25)).heap.size = w.heap.size + 1 := World.size_alloc _ _
 generalize w.alloc (.cells #[.slice p s.length c] 25) = w1 at *
 have k1 : w1.cell? ⟨w.heap.size, 0, none⟩ = some (.slice p s.length c) := by simp [World.cell?, hb1]
 have l1 : w.heap.size < w1.heap.size := by omega
 have HX1 := Lib.hid hx1
 have HZ1 := Lib.hid hz1
 clear hb1 hx1 hz1
 go_wp2_with fail
 go_loopw [3, 16] (fun o x wr => ∃ q : Nat, q ≤ s.length ∧ x = .int .i64 q ∧ Xk.Ext w1 wr ∧ Own (fun b => w1.heap.size ≤ b) 46 37 StmtIn (P13.defs (s.take q)) o wr) (fun _ x _ => s.length - (intOf x).toNat)
 case atStart => exact ⟨0, by omega, rfl, Below.refl _ _, Own.nil⟩
 case round =>
  obtain ⟨q, hq, rfl, hx, ho⟩ := hrel
  have HO := Lib.hid ho
  have hws := hx.size
  obtain ⟨po, co, rfl⟩ := ho.form
  by_cases hlt : q < s.length
  ·obtain ⟨g, rfl⟩ := HS.out.root (by omega)
   obtain ⟨-, -, he⟩ := HS.out.elem
   obtain ⟨u, hu, -, hr⟩ := he q _ (List.getElem?_eq_getElem hlt)
   have hm := List.getElem_mem hlt
   have hq1 := HL.out.low.checks _ hm
   have hq2 := HL.out.low.cols _ hm
   have hq3 := HL.out.low.keys _ hm
   have hq4 := HL.out.low.kcols _ hm
   have hq5 := HL.out.pos _ hm
   have HQ6 := Lib.hid (HL.out.cols _ hm)
   have HQ7 := Lib.hid (HL.out.uniq _ hm)
   have HQ8 := Lib.hid (HL.out.kpos _ hm)
   have HGET := Lib.hid (List.getElem?_eq_getElem hlt)
   have hxr : Xk.Ext w wr := Xk.Ext.trans HX1.out hx
   have HU := Lib.hid (stab_tbl _ (fun b => b < w.heap.size) _ wr _ _ hu (fun b _ hl => hxr.block b hl) (fun b _ hl => hl))
   obtain ⟨tc, tk, tq, rfl, a1, a2, a3⟩ := hu
   obtain ⟨p1, c1, rfl⟩ := a1.len
   obtain ⟨p2, c2, rfl⟩ := a2.len
   obtain ⟨p3, c3, rfl⟩ : ∃ p3 c3, tq = .slice p3 0 c3 := by rw [hq1] at a3; exact a3.len
   have hg2 : g < w.heap.size := World.block_lt_of_cell? _ _ (hr 0 _ rfl)
   have HRJ := Lib.hid (range_same hr (hxr.block g hg2))
   have hlb : (q : Int) < (s.length : Int) := by omega
   have hwg : g < wr.heap.size := Nat.lt_of_lt_of_le hg2 hxr.size
   have HQ1 := Lib.hid hq1
   have HX := Lib.hid hx
   clear hr he a1 a2 a3 hq1 hx ho hxr
   generalize s[q] = t at *
   go_upto_region 5 with (refine wpList_load_mid rfl 33 _ rfl g (q * 4) rfl _ _ HRJ.out Tryz.underlying33 rfl (by kernel_rfl) ?_)
   have hx5 := extA wr (.cells #[bs t.name, .slice p1 t.cols.length c1, .slice p2 t.keys.length c2, .slice p3 0 c3] 33)
   have hb5 := heap_new wr (.cells #[bs t.name, .slice p1 t.cols.length c1, .slice p2 t.keys.length c2, .slice p3 0 c3] 33)
   have hzz5 := World.size_alloc wr (.cells #[bs t.name, .slice p1 t.cols.length c1, .slice p2 t.keys.length c2, .slice p3 0 c3] 33)
   generalize wr.alloc (.cells #[bs t.name, .slice p1 t.cols.length c1, .slice p2 t.keys.length c2, .slice p3 0 c3] 33) = w5 at *
   have HT := Lib.hid (tableK_any w5 (tblR.ext HU.out hx5) HQ1.out hq2 hq5 hq3 hq4)
   have HX5 := Lib.hid hx5
   have HZ5 : Hid (w5.heap.size = wr.heap.size + 1) := Lib.hid hzz5
   have HB5 := Lib.hid hb5
   have l5 := (Array.getElem?_eq_some_iff.1 hb5).1
   clear hx5 hzz5
   go_wp2_with (refine lw hb5 Tryz.underlying33 ?_)
   refine HT.out.mono ?_
   rintro e w6 ⟨v6, rfl, hx6, n1, m1, d1, n2, m2, d2, rfl, hot⟩
   have hbk : ∀ W : World, (Instr.build 46 #[(0, Value.int .i64 1), (1, .agg #[bs t.name, .slice n1 m1 d1, .slice n2 m2 d2, nilS])]).run Tryz.prog W = .ok (.agg (tabL t.name (.slice n1 m1 d1) (.slice n2 m2 d2) nilS nilS)) W := fun W => by kernel_rfl
   go_upto_region 6 with (refine pw (heap_new _ _) ?_; intro w7 hp7)
   have hp : Puts w6.heap.size (tabL t.name (.slice n1 m1 d1) (.slice n2 m2 d2) nilS nilS) 46 _ w7 := hp7
   have c73 : w7.cell? ⟨w6.heap.size, 3, none⟩ = some (.slice n2 m2 d2) := by simp [World.cell?, hp.blk]
   have f73 := frozen_of_row w7 w6.heap.size 3 _ _ hp.blk
   have l73 := World.block_lt_of_cell? _ _ c73
   have hz6 := hx6.size
   have hz5 := HX5.out.size
   have HP := Lib.hid hp
   have HX6 := Lib.hid hx6
   clear hp7 hp hx6 hbk
   go_upto_region 8 with fail
   have h8x := heap_setCell_same w7 w6.heap.size 3 _ _ nilS HP.out.blk
   have h8o : ∀ b, b ≠ w6.heap.size → (w7.setCell ⟨w6.heap.size, 3, none⟩ nilS).heap[b]? = w7.heap[b]? := fun b hb => heap_setCell_other w7 ⟨w6.heap.size, 3, none⟩ b _ (fun e => hb (by simpa using e))
   have hz8 : (w7.setCell ⟨w6.heap.size, 3, none⟩ nilS).heap.size = w6.heap.size + 1 := by rw [World.size_setCell, HP.out.size, World.size_alloc]
   have hx8 : Xk.Ext w5 (w7.setCell ⟨w6.heap.size, 3, none⟩ nilS) := Below.setCell (p := ⟨w6.heap.size, 3, none⟩) (puts_ext HP.out (Xk.Ext.trans HX6.out (extA _ _)) hz6) hz6 _
   have h8e : ∀ b, b < w6.heap.size → (w7.setCell ⟨w6.heap.size, 3, none⟩ nilS).heap[b]? = w6.heap[b]? := fun b hb => (h8o b (by omega)).trans ((HP.out.rest b (by omega)).trans ((extA w6 _).block b hb))
   generalize w7.setCell ⟨w6.heap.size, 3, none⟩ nilS = w8 at *
   obtain ⟨col, hcol⟩ : ∃ col : Nat → Nat, ∀ b, col b = if b = w6.heap.size then 9 else if b = wr.heap.size then 8 else 0 := ⟨_, fun _ => rfl⟩
   have hs5 : w5.heap.size = wr.heap.size + 1 := HZ5.out
   obtain ⟨-, tc', tk', hte, hoc, -⟩ := hot
   cases hte
   have hD : DfAt wr.heap.size w6.heap.size t.name t.cols [] [] [] col (.slice n1 m1 d1) nilS nilS nilS w8 :=
    ⟨h8x, (hoc.slc stab_col (by decide)).keep (fun b _ hl => h8e b hl) (fun b hb hl => ⟨by have := hb.1; omega, by rw [hcol, if_neg (by omega), if_neg (by have := hb.1; omega)]⟩) (fun _ _ h => h), Own.nil, Own.nil, Own.nil, by omega, by rw [hcol, if_pos rfl]⟩
   have hgt8 := (hx8.block _ l5).trans HB5.out
   have HR8 : Hid (DfRel wr.heap.size wr.heap.size w6.heap.size wr t #[bs t.name, .slice p1 t.cols.length c1, .slice p2 t.keys.length c2, .slice p3 0 c3] (.slice n1 m1 d1) 0 nilS w8) :=
    Lib.hid ⟨col, nilS, nilS, Nat.zero_le _, Kept.of_ext (Xk.Ext.trans HX5.out hx8), hgt8, Nat.le_refl _, by rw [hcol, if_neg (by omega), if_pos rfl], by omega, hD⟩
   have k82 : w8.cell? ⟨wr.heap.size, 2, none⟩ = some (.slice p2 t.keys.length c2) := by simp [World.cell?, hgt8]
   have l8 := World.block_lt_of_cell? _ _ k82
   have HUR := Lib.hid (fun W (hk : Kept wr.heap.size [] wr W) => (fun b (hb : b < w.heap.size) => hk.block b (by have := HX1.out.size; omega) (by have := HX1.out.size; omega) (by simp) : ∀ b, b < w.heap.size → W.heap[b]? = wr.heap[b]?))
   clear h8x h8o h8e hx8 hoc hD hgt8 HP HX6 HT hb5 hcol c73 f73 l73 hz6
   go_wp2_with fail
   go_loopw [7, 28] (fun rv x wi => ∃ j : Nat, x = .int .i64 j ∧ DfRel wr.heap.size wr.heap.size w6.heap.size wr t #[bs t.name, .slice p1 t.cols.length c1, .slice p2 t.keys.length c2, .slice p3 0 c3] (.slice n1 m1 d1) j rv wi) (fun _ x _ => t.keys.length - (intOf x).toNat)
   case atStart => exact ⟨0, rfl, HR8.out⟩
   case round =>
    obtain ⟨j, rfl, hD⟩ := hrel
    obtain ⟨col, tkv, kvv, hj, hkp, hgt, hBt, hct, hBw, hD⟩ := hD
    rename World => wi
    have hub := HUR.out wi hkp
    have hgtl := (Array.getElem?_eq_some_iff.1 hgt).1
    by_cases hjl : j < t.keys.length
    ·skip
     obtain ⟨tc0, tk0, tq0, hte, b1, b2, -⟩ := HU.out
     cases hte
     obtain ⟨g2, rfl⟩ := b2.root (by omega)
     obtain ⟨g1, rfl⟩ := b1.root hq5
     obtain ⟨-, -, he⟩ := SlcAt.elem b2
     obtain ⟨u, hu, -, hr⟩ := he j _ (List.getElem?_eq_getElem hjl)
     have hg2 : g2 < w.heap.size := b2.elem.2.1
     have hg1 : g1 < w.heap.size := b1.elem.2.1
     have hkm := List.getElem_mem hjl
     have HKJ := Lib.hid (List.getElem?_eq_getElem hjl)
     have hkc := hq4 _ hkm
     have HKL := Lib.hid (HQ6.out _ hkm)
     have HKU := Lib.hid (HQ7.out _ hkm)
     have hkp0 := HQ8.out _ hkm
     have HCC := Lib.hid (range_same (colCells b1) (hub g1 hg1))
     have HRK := Lib.hid (range_same hr (hub g2 hg2))
     generalize t.keys[j] = k at *
     obtain ⟨kv0, rfl, hkv⟩ := hu
     obtain ⟨pk, ck, rfl⟩ := hkv.len
     have hjb : (j : Int) < (t.keys.length : Int) := by omega
     have hwi2 : g2 < wi.heap.size := by have := HX1.out.size; omega
     have hwi1 : g1 < wi.heap.size := by have := HX1.out.size; omega
     have hkvi := hkv.keep (w' := wi) (S' := fun b => b < w.heap.size) (fun b hb _ => hub b hb) (fun b hb _ => hb) (fun _ _ h => h)
     obtain ⟨pr, cr, hrf⟩ := hD.rs.form
     subst hrf
     have hkrl := kR_le t (t.keys.take j)
     have hkbl := kB_le (t.keys.take j)
     have hkcl := kC_le t.cols (t.keys.take j)
     rw [List.length_take] at hkrl hkbl hkcl
     have HD := Lib.hid hD
     have HKP := Lib.hid hkp
     have HGT := Lib.hid hgt
     clear b1 b2 he hr hkv hD hkp hgt
     go_upto_region 11 with (refine wpList_load_mid rfl 100 _ rfl g2 (j * 4) rfl _ _ HRK.out Tryz.underlying100 rfl (by kernel_rfl) ?_)
     have hx9 := extA wi (.cells #[bs k.name, .slice pk k.cols.length ck, .bool k.uniq, .bool k.prim] 100)
     have hb9 := heap_new wi (.cells #[bs k.name, .slice pk k.cols.length ck, .bool k.uniq, .bool k.prim] 100)
     have hz9 := World.size_alloc wi (.cells #[bs k.name, .slice pk k.cols.length ck, .bool k.uniq, .bool k.prim] 100)
     generalize wi.alloc (.cells #[bs k.name, .slice pk k.cols.length ck, .bool k.uniq, .bool k.prim] 100) = w9 at *
     have k91 : w9.cell? ⟨wi.heap.size, 1, none⟩ = some (.slice pk k.cols.length ck) := by simp [World.cell?, hb9]
     have l9 := World.block_lt_of_cell? _ _ k91
     have HX9 := Lib.hid hx9
     have HB9 := Lib.hid hb9
     have HZ9 := Lib.hid hz9
     have HKV := Lib.hid (hkvi.extG hx9)
     clear hx9 hb9 hz9 hkvi
     obtain ⟨i0, hi, hz0, hz1, hz2⟩ := infoParts Tryz.infoString
     have Hi := Lib.hid hi
     have Hz0 := Lib.hid hz0
     have Hz1 := Lib.hid hz1
     have Hz2 := Lib.hid hz2
     clear hi hz0 hz1 hz2
     go_wp2_with fail
     go_loopw [10, 35] (fun o y wn => ∃ i : Nat, i ≤ k.cols.length ∧ y = .int .i64 i ∧ Xk.Ext w9 wn ∧ wn.ownsRow w9.heap.size 9 1 o i ((k.cols.take i).map fun c => bs (t.cols.getD c ([], 0, false)).1)) (fun _ y _ => k.cols.length - (intOf y).toNat)
     case atStart => exact ⟨0, by omega, rfl, Below.refl _ _, World.ownsRow_nil _ _ _ _⟩
     case round =>
      obtain ⟨i, hi, rfl, hx, hon⟩ := hrel
      rename World => wn
      obtain ⟨pn, cn, rfl⟩ := own_slice hon
      have HXN := Lib.hid hx
      have HON := Lib.hid hon
      have hwn := hx.size
      by_cases hil : i < k.cols.length
      ·obtain ⟨g3, rfl⟩ := HKV.out.root (by omega)
       have hci := Xk.ext_cell hx (slc_cell1 (f := fun n : Nat => Value.int .i64 n) HKV.out i hil)
       have lg3 := World.block_lt_of_cell? _ _ hci
       have hcl := HKL.out _ (List.getElem_mem hil)
       have HGI := Lib.hid (List.getElem?_eq_getElem hil)
       generalize k.cols[i] = c at *
       have hcn : wn.cell? ⟨g1, c * 3, none⟩ = some (bs (t.cols.getD c ([], 0, false)).1) := by
        have h0 := HCC.out (c * 3) (bs (t.cols.getD c ([], 0, false)).1) (colsC_at hcl)
        rw [Nat.zero_add] at h0
        exact Xk.ext_cell (Xk.Ext.trans HX9.out hx) h0
       have lcn := World.block_lt_of_cell? _ _ hcn
       have ktc : wn.cell? ⟨wr.heap.size, 1, none⟩ = some (.slice (some ⟨g1, 0, none⟩) t.cols.length c1) := by simp [World.cell?, ((Xk.Ext.trans HX9.out hx).block _ hgtl).trans HGT.out]
       have ltc := World.block_lt_of_cell? _ _ ktc
       have hib : (i : Int) < (k.cols.length : Int) := by omega
       have hcb : (c : Int) < (t.cols.length : Int) := by omega
       have hc0 : ¬ (c : Int) < 0 := by omega
       clear hx hon
       obtain ⟨nmc, hnm⟩ : ∃ nmc, (t.cols.getD c ([], 0, false)).1 = nmc := ⟨_, rfl⟩
       rw [hnm] at hcn
       have HNM := Lib.hid hnm
       clear hnm
       have HXA := Lib.hid (extA wn (.cells #[bs nmc] 9))
       go_wp2_with (at_builtin; go_loud (refine Xo.wpList_appb w9.heap.size rfl _ _ 35 rfl 9 i0 _ 1 16 Tryz.underlying35 Hi.out Hz0.out Hz1.out Hz2.out rfl (by decide) (.slice pn i cn) i _ rfl (own_same HON.out (fun b hb => HXA.out.block b (HON.out.lt b hb).2)) wn.heap.size 0 1 1 [bs nmc] rfl (by decide) rfl (cells_list wn _ _ rfl) (one_all (by kernel_rfl)) (by omega) (by simp only [World.size_alloc]; omega) ?_); intro v' w7' ho' hg' hk')
       have hx7 : Xk.Ext w9 w7' := Below.grown (Xk.Ext.trans HXN.out HXA.out) hg' (by simp only [World.size_alloc]; omega) (fun j hj => (HON.out.lt j hj).1)
       exact ⟨⟨i + 1, by omega, by go_num, hx7, by rw [← take_map_succ HGI.out, HNM.out]; exact ho'⟩, by simp [intOf]; omega⟩
      ·have hib : ¬ (i : Int) < (k.cols.length : Int) := by omega
       obtain rfl : i = k.cols.length := by omega
       rw [List.take_length] at hon
       have hsn := own_slc1 (l := P13.colNames t.cols k.cols) (f := bs) (e := 9) (by unfold P13.colNames; rw [List.length_map, List.map_map]; exact hon) (by unfold P13.colNames; rw [List.length_map]; exact hkp0)
       have hlcn : (P13.colNames t.cols k.cols).length = k.cols.length := by unfold P13.colNames; rw [List.length_map]
       have hbn := (hx.block _ (Array.getElem?_eq_some_iff.1 HB9.out).1).trans HB9.out
       have hgn := ((Xk.Ext.trans HX9.out hx).block _ hgtl).trans HGT.out
       have kn0 : wn.cell? ⟨wi.heap.size, 0, none⟩ = some (bs k.name) := by simp [World.cell?, hbn]
       have kn2 : wn.cell? ⟨wi.heap.size, 2, none⟩ = some (.bool k.uniq) := by simp [World.cell?, hbn]
       have kn3 : wn.cell? ⟨wi.heap.size, 3, none⟩ = some (.bool k.prim) := by simp [World.cell?, hbn]
       have kg0 : wn.cell? ⟨wr.heap.size, 0, none⟩ = some (bs t.name) := by simp [World.cell?, hgn]
       have lnk := World.block_lt_of_cell? _ _ kn0
       have lng := World.block_lt_of_cell? _ _ kg0
       have HSN := Lib.hid hsn
       have HLC := Lib.hid hlcn
       have HGN := Lib.hid hgn
       have hw9 := HZ9.out
       have HXW := Lib.hid (Xk.Ext.trans HX9.out hx)
       clear hsn hlcn hbn hgn hon hx HON HXN Hi Hz0 Hz1 Hz2 i0
       obtain ⟨be, hbe⟩ : ∃ be, k.name.isEmpty = be := ⟨_, rfl⟩
       cases be
       ·obtain ⟨e1, e2, e3⟩ := k_named (l := t.keys.take j) (t := t) hbe
        rw [← take_get HKJ.out] at e1 e2 e3
        have HE1 := Lib.hid e1
        have HE2 := Lib.hid e2
        have HE3 := Lib.hid e3
        obtain ⟨col', hcol⟩ : ∃ col' : Nat → Nat, ∀ b, col' b = if b < wi.heap.size then col b else 4 := ⟨_, fun _ => rfl⟩
        have hxs := extA wn (.cells (idxL k.name t.name k.uniq (.slice pn k.cols.length cn)).toArray 46)
        have hDn := DfAt.ext (col' := col') (w' := wn.alloc (.cells (idxL k.name t.name k.uniq (.slice pn k.cols.length cn)).toArray 46)) HD.out (fun b _ hl => (Xk.Ext.trans HXW.out hxs).block b hl) (fun b hb => by rw [hcol, if_pos hb])
        obtain ⟨us, -, how, hus, hu2, hu3, hu4⟩ := hDn.rs
        have hlt7 := fun b hb => (HD.out.rs.lt b hb).2
        have hsi : StmtIn (fun b => (wr.heap.size ≤ b ∧ col' b = 4) ∧ ¬ (Value.slice pr (kR t (t.keys.take j)).length cr).ownBlock = some b) (wn.alloc (.cells (idxL k.name t.name k.uniq (.slice pn k.cols.length cn)).toArray 46)) (P13.indexOf t k) (idxL k.name t.name k.uniq (.slice pn k.cols.length cn)) :=
         idxL_in ((HSN.out.extG hxs).keep (fun _ _ _ => rfl) (fun b hb _ => ⟨⟨by omega, by rw [hcol, if_neg (by omega)]⟩, fun e => by have := hlt7 b e; omega⟩) (fun _ _ h => h))
        have hgtn := (hxs.block _ lng).trans HGN.out
        have HDN := Lib.hid hDn
        have HOW := Lib.hid how
        have HU4 := Lib.hid hu4
        have HSI := Lib.hid hsi
        have HGTN := Lib.hid hgtn
        have HLT7 := Lib.hid hlt7
        have HXS := Lib.hid hxs
        have hbk : ∀ W : World, (Instr.build 46 #[(0, Value.int .i64 3), (3, bs k.name), (4, bs t.name), (5, .bool k.uniq), (6, .slice pn k.cols.length cn)]).run Tryz.prog W = .ok (.agg (idxL k.name t.name k.uniq (.slice pn k.cols.length cn)).toArray) W := fun W => by kernel_rfl
        clear e1 e2 e3 hxs hDn how hu4 hlt7 hsi hgtn
        obtain ⟨i0, hi, hz0, hz1, hz2⟩ := infoParts Tryz.infoStmt
        have Hi := Lib.hid hi
        have Hz0 := Lib.hid hz0
        have Hz1 := Lib.hid hz1
        have Hz2 := Lib.hid hz2
        clear hi hz0 hz1 hz2
        go_wp2_with (at_builtin; go_loud (refine Xo.wpList_appb 0 rfl _ _ 84 rfl 46 i0 _ 37 576 Tryz.underlying84 Hi.out Hz0.out Hz1.out Hz2.out rfl (by decide) (.slice pr (kR t (t.keys.take j)).length cr) (kR t (t.keys.take j)).length us.flatten rfl HOW.out wn.heap.size 0 1 1 (idxL k.name t.name k.uniq (.slice pn k.cols.length cn)) rfl (by decide) rfl (cells_list wn _ _ rfl) (one_all (by kernel_rfl)) (by omega) (Nat.zero_le _) ?_); intro v' wz ho8 hg8 hk8)
        have hc8 : col' wr.heap.size = 8 := by rw [hcol, if_pos hgtl]; exact hct
        have hsz := hg8.size
        rw [World.size_alloc] at hsz
        refine ⟨⟨j + 1, by go_num, col', tkv, kvv, by omega, Kept.grown ((HKP.out.trans (Kept.of_ext HXW.out)).alloc _) hg8 (fun b hb => (hus b hb).1), (hg8.block _ (by rw [World.size_alloc]; omega) (fun e => by have := (hus _ e.symm).2; omega)).trans HGTN.out, hBt, hc8, by omega, ?_⟩, by simp [intOf]; omega⟩
        rw [HE1.out, HE2.out, HE3.out]
        exact DfAt.rest HDN.out (by rw [World.size_alloc]; omega) (fun b hb => by rw [World.size_alloc] at hb; rw [hcol, if_neg (by omega)]) hu2 hu3 HU4.out hg8 ho8 hk8 rfl HSI.out
       ·obtain ⟨e1, e2, e3⟩ := k_plain (l := t.keys.take j) (t := t) hbe
        rw [← take_get HKJ.out] at e1 e2 e3
        have hku : k.uniq = true := HKU.out (List.isEmpty_iff.1 hbe)
        rw [hku] at kn2
        obtain ⟨pk', ck', hkf⟩ := HD.out.tk.form
        obtain ⟨pv', cv', hvf⟩ := HD.out.kv.form
        subst hkf hvf
        have HE1 := Lib.hid e1
        have HE2 := Lib.hid e2
        have HE3 := Lib.hid e3
        have hgx := HD.out.gx
        have hgxl := (Array.getElem?_eq_some_iff.1 HD.out.blk).1
        obtain ⟨col', hcol⟩ : ∃ col' : Nat → Nat, ∀ b, col' b = if b < wi.heap.size then col b else if b < wn.heap.size then 3 else 1 := ⟨_, fun _ => rfl⟩
        have hxs := extA wn (.cells #[.string ⟨#[]⟩, nilS, .bool true, .bool k.prim] 100)
        have hDn := DfAt.ext (col' := col') (w' := wn.alloc (.cells #[.string ⟨#[]⟩, nilS, .bool true, .bool k.prim] 100)) HD.out (fun b _ hl => (Xk.Ext.trans HXW.out hxs).block b hl) (fun b hb => by rw [hcol, if_pos hb])
        obtain ⟨us, -, how, hus, hu2, hu3, hu4⟩ := hDn.tk
        have hltk := fun b hb => (HD.out.tk.lt b hb).2
        have kx3 : wn.cell? ⟨w6.heap.size, 3, none⟩ = some (.slice pk' (kB (t.keys.take j)).length ck') := by simp [World.cell?, (HXW.out.block _ hgxl).trans HD.out.blk]
        have lx3 := World.block_lt_of_cell? _ _ kx3
        have HDN := Lib.hid hDn
        have HOW := Lib.hid how
        have HU4 := Lib.hid hu4
        have HLTK := Lib.hid hltk
        have HUS := Lib.hid hus
        have hbk : ∀ W : World, (Instr.build 100 #[(2, Value.bool true), (3, .bool k.prim)]).run Tryz.prog W = .ok (.agg #[.string ⟨#[]⟩, nilS, .bool true, .bool k.prim]) W := fun W => by kernel_rfl
        clear e1 e2 e3 hxs hDn how hu4 hltk hku hus
        obtain ⟨i0, hi, hz0, hz1, hz2⟩ := infoParts Tryz.infoKey
        have Hi := Lib.hid hi
        have Hz0 := Lib.hid hz0
        have Hz1 := Lib.hid hz1
        have Hz2 := Lib.hid hz2
        clear hi hz0 hz1 hz2
        go_upto_region 22 with (at_builtin; go_loud (refine Xo.wpList_appb 0 rfl _ _ 30 rfl 100 i0 _ 4 48 Tryz.underlying30 Hi.out Hz0.out Hz1.out Hz2.out rfl (by decide) (.slice pk' (kB (t.keys.take j)).length ck') (kB (t.keys.take j)).length us.flatten rfl HOW.out wn.heap.size 0 1 1 [.string ⟨#[]⟩, nilS, .bool true, .bool k.prim] rfl (by decide) rfl (cells_list wn _ _ rfl) (one_all (by kernel_rfl)) (by omega) (Nat.zero_le _) ?_); intro v' wz ho8 hg8 hk8; obtain ⟨z8, cz8, rfl⟩ := ownForm ho8 (by omega); have hzb := (hg8.block w6.heap.size (by rw [World.size_alloc]; omega) (fun e => by have h1 := (HUS.out _ e.symm).2; have h2 := HDN.out.gx.2; omega)).trans HDN.out.blk; have c8 : wz.cell? ⟨w6.heap.size, 3, none⟩ = some (.slice pk' (kB (t.keys.take j)).length ck') := (by simp [World.cell?, hzb]); have f8 := frozen_of_row wz w6.heap.size 3 _ _ hzb; have l8 := World.block_lt_of_cell? _ _ c8; have HO8 := Lib.hid ho8; have HG8 := Lib.hid hg8; have HK8 := Lib.hid hk8; clear ho8 hg8 hk8 hzb)
        have hDa := DfAt.key HDN.out (by rw [World.size_alloc]; omega) (fun b hb => by rw [World.size_alloc] at hb; rw [hcol, if_neg (by omega), if_neg (by omega)]) hu2 hu3 HU4.out HG8.out HO8.out HK8.out rfl (show keyR k.prim _ from rfl)
        have hso : ∀ b, b ≠ w6.heap.size → (wz.setCell ⟨w6.heap.size, 3, none⟩ (.slice (some ⟨z8, 0, none⟩) ((kB (t.keys.take j)).length + 1) cz8)).heap[b]? = wz.heap[b]? := fun b hb => heap_setCell_other wz ⟨w6.heap.size, 3, none⟩ b _ (fun e => hb (by simpa using e))
        have hsz := HG8.out.size
        rw [World.size_alloc] at hsz
        have hszs : (wz.setCell ⟨w6.heap.size, 3, none⟩ (.slice (some ⟨z8, 0, none⟩) ((kB (t.keys.take j)).length + 1) cz8)).heap.size = wz.heap.size := World.size_setCell _ _ _
        have hkpa : Kept wr.heap.size [] wr (wz.setCell ⟨w6.heap.size, 3, none⟩ (.slice (some ⟨z8, 0, none⟩) ((kB (t.keys.take j)).length + 1) cz8)) := Kept.setCell (Kept.grown ((HKP.out.trans (Kept.of_ext HXW.out)).alloc _) HG8.out (fun b hb => (HUS.out b hb).1)) (.inl hgx.1) _ _
        have hoth : ∀ b, b < wn.heap.size → col' b ≠ 1 → b ≠ w6.heap.size → (wz.setCell ⟨w6.heap.size, 3, none⟩ (.slice (some ⟨z8, 0, none⟩) ((kB (t.keys.take j)).length + 1) cz8)).heap[b]? = wn.heap[b]? := fun b hb h1 h2 => (hso b h2).trans ((HG8.out.block b (by rw [World.size_alloc]; omega) (fun e => h1 (HUS.out b e.symm).2)).trans ((extA wn _).block b hb))
        generalize wz.setCell ⟨w6.heap.size, 3, none⟩ (.slice (some ⟨z8, 0, none⟩) ((kB (t.keys.take j)).length + 1) cz8) = wy at *
        obtain ⟨col2, hcol2⟩ : ∃ col2 : Nat → Nat, ∀ b, col2 b = if b < wy.heap.size then col' b else 3 := ⟨_, fun _ => rfl⟩
        have hxy := extA wy (.cells #[.slice pn k.cols.length cn] 35)
        have hD2 := DfAt.ext (col' := col2) (w' := wy.alloc (.cells #[.slice pn k.cols.length cn] 35)) hDa (fun b _ hl => hxy.block b hl) (fun b hb => by rw [hcol2, if_pos hb])
        obtain ⟨us2, -, how2, hus2, hv2, hv3, hv4⟩ := hD2.kv
        have hltv := fun b hb => (HD.out.kv.lt b hb).2
        have hxs2 : strsR (fun b => (wr.heap.size ≤ b ∧ col2 b = 3) ∧ ¬ (Value.slice pv' (kC t.cols (t.keys.take j)).length cv').ownBlock = some b) (wy.alloc (.cells #[.slice pn k.cols.length cn] 35)) (P13.colNames t.cols k.cols) [.slice pn k.cols.length cn] :=
         ⟨_, rfl, HSN.out.keep (fun b hb hl => (hxy.block b (by omega)).trans (hoth b hl (by rw [hcol, if_neg (by omega), if_pos hl]; decide) (by omega))) (fun b hb hl => ⟨⟨by omega, by rw [hcol2, if_pos (by omega), hcol, if_neg (by omega), if_pos hl]⟩, fun e => by have := hltv b e; omega⟩) (fun _ _ h => h)⟩
        have hc8 : col' wr.heap.size = 8 := by rw [hcol, if_pos hgtl]; exact hct
        have hgty := (hoth _ lng (by rw [hc8]; decide) (fun e => absurd (hct.symm.trans ((congrArg col e).trans hgx.2)) (by decide))).trans HGN.out
        have kx5 : wy.cell? ⟨w6.heap.size, 5, none⟩ = some (.slice pv' (kC t.cols (t.keys.take j)).length cv') := by simp [World.cell?, hDa.blk]
        have lx5 : w6.heap.size < wy.heap.size := World.block_lt_of_cell? _ _ kx5
        have HDA := Lib.hid hD2
        have HOW2 := Lib.hid how2
        have HV4 := Lib.hid hv4
        have HUS2 := Lib.hid hus2
        have HXS2 := Lib.hid hxs2
        have HKPA := Lib.hid hkpa
        have HGTY := Lib.hid hgty
        have hlgy := (Array.getElem?_eq_some_iff.1 hgty).1
        clear hD2 how2 hv4 hltv hxs2 hxy hDa hso hoth hkpa hgty hszs kx3 lx3 c8 f8 l8 hbk Hi Hz0 Hz1 Hz2 i0
        obtain ⟨i0, hi, hz0, hz1, hz2⟩ := infoParts Tryz.infoStrs
        have Hi := Lib.hid hi
        have Hz0 := Lib.hid hz0
        have Hz1 := Lib.hid hz1
        have Hz2 := Lib.hid hz2
        clear hi hz0 hz1 hz2
        go_wp2_with (at_builtin; go_loud (refine Xo.wpList_appb 0 rfl _ _ 34 rfl 35 i0 _ 1 24 Tryz.underlying34 Hi.out Hz0.out Hz1.out Hz2.out rfl (by decide) (.slice pv' (kC t.cols (t.keys.take j)).length cv') (kC t.cols (t.keys.take j)).length us2.flatten rfl HOW2.out wy.heap.size 0 1 1 [.slice pn k.cols.length cn] rfl (by decide) rfl (cells_list wy _ _ rfl) (one_all (by kernel_rfl)) (by omega) (Nat.zero_le _) ?_); intro v' wx ho9 hg9 hk9; obtain ⟨z9, cz9, rfl⟩ := ownForm ho9 (by omega); have hxb := (hg9.block w6.heap.size (by rw [World.size_alloc]; omega) (fun e => by have h1 := (HUS2.out _ e.symm).2; have h2 := HDA.out.gx.2; omega)).trans HDA.out.blk; have c9 : wx.cell? ⟨w6.heap.size, 5, none⟩ = some (.slice pv' (kC t.cols (t.keys.take j)).length cv') := (by simp [World.cell?, hxb]); have f9 := frozen_of_row wx w6.heap.size 5 _ _ hxb; have l9' := World.block_lt_of_cell? _ _ c9; have HO9 := Lib.hid ho9; have HG9 := Lib.hid hg9; have HK9 := Lib.hid hk9; clear ho9 hg9 hk9 hxb)
        have hc82 : col2 wr.heap.size = 8 := by rw [hcol2, if_pos hlgy]; exact hc8
        have hsz9 := HG9.out.size
        rw [World.size_alloc] at hsz9
        refine ⟨⟨j + 1, by go_num, col2, .slice (some ⟨z8, 0, none⟩) ((kB (t.keys.take j)).length + 1) cz8, .slice (some ⟨z9, 0, none⟩) ((kC t.cols (t.keys.take j)).length + 1) cz9, by omega, Kept.setCell (Kept.grown (HKPA.out.alloc _) HG9.out (fun b hb => (HUS2.out b hb).1)) (.inl hgx.1) _ _, ?_, hBt, hc82, by rw [World.size_setCell]; omega, ?_⟩, by simp [intOf]; omega⟩
        ·exact (heap_setCell_other wx ⟨w6.heap.size, 5, none⟩ wr.heap.size _ (fun e => by have e' : wr.heap.size = w6.heap.size := (by simpa using e); exact absurd (hct.symm.trans ((congrArg col e').trans hgx.2)) (by decide))).trans ((HG9.out.block _ (by rw [World.size_alloc]; omega) (fun e => by have := (HUS2.out _ e.symm).2; omega)).trans (((extA wy _).block _ hlgy).trans HGTY.out))
        ·rw [HE1.out, HE2.out, HE3.out]
         exact DfAt.cols HDA.out (by rw [World.size_alloc]; omega) (fun b hb => by rw [World.size_alloc] at hb; rw [hcol2, if_neg (by omega)]) hv2 hv3 HV4.out HG9.out HO9.out HK9.out rfl HXS2.out
    ·have hjb : ¬ (j : Int) < (t.keys.length : Int) := by omega
     obtain rfl : j = t.keys.length := by omega
     rw [List.take_length] at hD
     obtain ⟨pr, cr, hrf⟩ := hD.rs.form
     subst hrf
     have hblk := hD.blk
     have hdl := defs_le (s.take q) (fun t ht => HL.out.low.keys t (List.mem_of_mem_take ht))
     rw [List.length_take, Nat.min_eq_left hq] at hdl
     have hrl := kR_le t t.keys
     have hox := HO.out.keep stab_stmt (w' := wi) (S' := fun b => w1.heap.size ≤ b ∧ b < wr.heap.size) (fun b _ hl => hkp.block b hl hl (by simp)) (fun b hb hl => ⟨hb, hl⟩)
     have hub := fun b hb => (hox.lt b hb).1
     obtain ⟨us, -, how, -, hu2, hu3, hu4⟩ := hox.keep stab_stmt (w' := wi) (S' := fun b => w1.heap.size ≤ b) (fun _ _ _ => rfl) (fun b hb _ => hb.1)
     have hxa := extA wi (.cells (tabL t.name (.slice n1 m1 d1) tkv nilS kvv) 46)
     have hst := (hD.stmt.keep (w' := wi.alloc (.cells (tabL t.name (.slice n1 m1 d1) tkv nilS kvv) 46)) (S' := fun b => w1.heap.size ≤ b ∧ ¬ (Value.slice po (P13.defs (s.take q)).length co).ownBlock = some b) (fun b _ hl => hxa.block b hl) (fun b hb _ => ⟨by omega, fun e => by have := (hub b e).2; omega⟩))
     rw [← create_eq HQ1.out] at hst
     have hrs := hD.rs
     have hone : ∀ u ∈ (tabL t.name (.slice n1 m1 d1) tkv nilS kvv).toList, u.oneCell' = true := by
      have h := hst.one
      simpa using h
     have HD := Lib.hid hD
     have HKP := Lib.hid hkp
     have HST := Lib.hid hst
     have HOW := Lib.hid how
     have HU4 := Lib.hid hu4
     have HUB := Lib.hid hub
     have HXA := Lib.hid hxa
     have HRS := Lib.hid hrs
     obtain ⟨pk', ck', hkf⟩ := HD.out.tk.form
     obtain ⟨pv', cv', hvf⟩ := HD.out.kv.form
     subst hkf hvf
     clear hD hkp hgt hst how hu4 hub hxa hrs hox
     obtain ⟨i0, hi, hz0, hz1, hz2⟩ := infoParts Tryz.infoStmt
     have Hi := Lib.hid hi
     have Hz0 := Lib.hid hz0
     have Hz1 := Lib.hid hz1
     have Hz2 := Lib.hid hz2
     clear hi hz0 hz1 hz2
     go_upto_region 24 with fail
     rcases Nat.eq_zero_or_pos (kR t t.keys).length with hz | hz
     ·have h0 : kR t t.keys = [] := List.eq_nil_of_length_eq_zero hz
      have hnil : (Value.slice pr (kR t t.keys).length cr) = nilS := by
       obtain ⟨_, h00, -⟩ := HRS.out
       exact h00 h0
      rw [hnil]
      go_wp2_with (first | (refine lw hblk Tryz.underlying46 ?_) | (at_builtin; refine wpList_append_own_none rfl _ _ 84 rfl 0 46 i0 37 Tryz.underlying84 Hi.out _ _ _ rfl HO8.out rfl ?_) | (at_builtin; refine Xo.wpList_appb 0 rfl _ _ 84 rfl 46 i0 _ 37 576 Tryz.underlying84 Hi.out Hz0.out Hz1.out Hz2.out rfl (by decide) (.slice po (P13.defs (s.take q)).length co) (P13.defs (s.take q)).length us.flatten rfl (HOW.out.alloc _) wi.heap.size 0 1 1 (tabL t.name (.slice n1 m1 d1) (.slice pk' (kB t.keys).length ck') nilS (.slice pv' (kC t.cols t.keys).length cv')).toList rfl (by decide) rfl (cells_list wi _ _ rfl) hone (by omega) (Nat.zero_le _) ?_; intro v' wo ho8 hg8 hk8; obtain ⟨z8, cz8, rfl⟩ := ownForm ho8 (by omega); have HO8 := Lib.hid ho8; have HG8 := Lib.hid hg8; have HK8 := Lib.hid hk8; clear ho8 hg8 hk8))
      have hp := Own.push (x := P13.createOf t) stab_stmt (fun b hb => (HUB.out b hb).1) (fun b hb => by rw [World.size_alloc] at hb; omega) hu2 hu3 (fun j x u hx hu => stab_stmt _ _ _ _ _ _ (HU4.out j x u hx hu) (fun b hb hl => HXA.out.block b hl) (fun b hb _ => hb)) HG8.out HO8.out HK8.out (by rfl) HST.out
      have hxz : Xk.Ext w1 wo := by
       have h := Kept.grown (((Kept.of_ext (B := w1.heap.size) HX.out).trans (HKP.out.mono hws (fun _ h => h))).alloc _) HG8.out (fun b hb => (HUB.out b hb).1)
       exact ⟨h.os, h.tape, h.output, h.size, fun b hb => h.block b hb hb (by simp)⟩
      exact ⟨⟨q + 1, by omega, by go_num, hxz, by rw [take_get HGET.out, defs_snoc, h0]; exact hp⟩, by simp [intOf]; omega⟩
     ·have hrs := HRS.out.slc stab_stmt (by decide)
      obtain ⟨uR, -, hoR, hsR, hr2, hr3, hr4⟩ := HRS.out
      obtain ⟨gR, rfl⟩ := hrs.root hz
      have hgR := hsR gR rfl
      have hgRl := (hoR.lt gR rfl).2
      have hcR : ∀ jj u, uR.flatten[jj]? = some u → wi.cell? ⟨gR, 0 + jj, none⟩ = some u := fun jj u hu => own_cell hoR jj u hu
      have honeR : ∀ u ∈ uR.flatten, u.oneCell' = true := fun u hu => by
       obtain ⟨l, hl, hul⟩ := List.mem_flatten.1 hu
       obtain ⟨jj, hjj⟩ := List.mem_iff_getElem?.1 hl
       have hlt := (List.getElem?_eq_some_iff.1 hjj).1
       have h := (hr4 jj _ l (List.getElem?_eq_getElem (by omega)) hjj).one
       have := (one_all (l := l) (by simpa using h)) u hul
       exact this
      have HCR := Lib.hid hcR
      have HR4 := Lib.hid hr4
      have HRO := Lib.hid hoR
      have hfl := flat_len hr3
      rw [hr2] at hfl
      have HFL := Lib.hid hfl
      clear hcR hr4 hoR hrs hfl
      go_wp2_with (first | (refine lw hblk Tryz.underlying46 ?_) | (at_builtin; refine Xo.wpList_appb 0 rfl _ _ 84 rfl 46 i0 _ 37 576 Tryz.underlying84 Hi.out Hz0.out Hz1.out Hz2.out rfl (by decide) (.slice (some ⟨z8, 0, none⟩) ((P13.defs (s.take q)).length + 1) cz8) ((P13.defs (s.take q)).length + 1) _ rfl HO8.out gR 0 (kR t t.keys).length cr uR.flatten rfl hz HFL.out (fun jj u hu => by rw [World.cell?_of_block (HGR.out)]; exact HCR.out jj u hu) honeR (by omega) (Nat.zero_le _) ?_; intro v'' wp ho9 hg9 hk9; have HO9 := Lib.hid ho9; have HG9 := Lib.hid hg9; have HK9 := Lib.hid hk9; clear ho9 hg9 hk9) | (at_builtin; refine Xo.wpList_appb 0 rfl _ _ 84 rfl 46 i0 _ 37 576 Tryz.underlying84 Hi.out Hz0.out Hz1.out Hz2.out rfl (by decide) (.slice po (P13.defs (s.take q)).length co) (P13.defs (s.take q)).length us.flatten rfl (HOW.out.alloc _) wi.heap.size 0 1 1 (tabL t.name (.slice n1 m1 d1) (.slice pk' (kB t.keys).length ck') nilS (.slice pv' (kC t.cols t.keys).length cv')).toList rfl (by decide) rfl (cells_list wi _ _ rfl) hone (by omega) (Nat.zero_le _) ?_; intro v' wo ho8 hg8 hk8; obtain ⟨z8, cz8, rfl⟩ := ownForm ho8 (by omega); have HO8 := Lib.hid ho8; have HG8 := Lib.hid hg8; have HK8 := Lib.hid hk8; have HGR : Hid (wo.heap[gR]? = wi.heap[gR]?) := Lib.hid ((hg8.block gR (by rw [World.size_alloc]; omega) (fun e => by have := (HUB.out _ e.symm).2; omega)).trans (HXA.out.block gR hgRl)); clear ho8 hg8 hk8))
      all_goals
       have hp := Own.push (x := P13.createOf t) stab_stmt (fun b hb => (HUB.out b hb).1) (fun b hb => by rw [World.size_alloc] at hb; omega) hu2 hu3 (fun j x u hx hu => stab_stmt _ _ _ _ _ _ (HU4.out j x u hx hu) (fun b hb hl => HXA.out.block b hl) (fun b hb _ => hb)) HG8.out HO8.out HK8.out (by rfl) HST.out
       obtain ⟨us1, -, how1, hus1, hv2, hv3, hv4⟩ := hp
       have hfl1 : us1.flatten = us.flatten ++ (tabL t.name (.slice n1 m1 d1) (.slice pk' (kB t.keys).length ck') nilS (.slice pv' (kC t.cols t.keys).length cv')).toList := own_same_cells (by have h := how1; rw [List.length_append] at h; exact h) HO8.out
       have hz8 : ∀ b, (Value.slice (some ⟨z8, 0, none⟩) ((P13.defs (s.take q)).length + 1) cz8).ownBlock = some b → b < wr.heap.size ∨ wi.heap.size < b := fun b hb => by
        rcases HK8.out b hb with h | h
        ·exact .inl (HUB.out b h).2
        ·rw [World.size_alloc] at h; exact .inr (by omega)
       have hw8 : ∀ b, wr.heap.size ≤ b → b < wi.heap.size → wo.heap[b]? = wi.heap[b]? := fun b h1 h2 => (HG8.out.block b (by rw [World.size_alloc]; omega) (fun e => by have := (HUB.out _ e.symm).2; omega)).trans (HXA.out.block b h2)
       have hpp := Own.pushL (ys := kR t t.keys) stab_stmt hus1 (fun b hb => by have := HG8.out.size; rw [World.size_alloc] at this; omega) hv2 hv3 hv4 HG9.out (by rw [hfl1, List.length_append]; exact HO9.out) hz HK9.out hr2 hr3 (fun jj x u hx hu => stab_stmt _ _ _ _ _ _ (HR4.out jj x u hx hu) (fun b hb hl => hw8 b hb.1.1 hl) (fun b hb hl => ⟨by omega, fun e => by rcases hz8 b e with h | h <;> omega⟩))
       have hxz : Xk.Ext w1 wp := by
        have h := Kept.grown (Kept.grown (((Kept.of_ext (B := w1.heap.size) HX.out).trans (HKP.out.mono hws (fun _ h => h))).alloc _) HG8.out (fun b hb => (HUB.out b hb).1)) HG9.out (fun b hb => hus1 b hb)
        exact ⟨h.os, h.tape, h.output, h.size, fun b hb => h.block b hb hb (by simp)⟩
       exact ⟨⟨q + 1, by omega, by go_num, hxz, by rw [take_get HGET.out, defs_snoc]; simpa using hpp⟩, by simp [intOf]; omega⟩
  ·have hlb : ¬ (q : Int) < (s.length : Int) := by omega
   obtain rfl : q = s.length := by omega
   have ho := HO.out
   rw [List.take_length] at ho
   have hxr := Xk.Ext.trans HX1.out hx
   have HOF := Lib.hid ho
   have HXR := Lib.hid hxr
   clear ho hxr hx HO
   go_wp2_with fail
   go_ret
   exact ⟨_, rfl, (HOF.out.slc stab_stmt (by decide)).keep (fun _ _ _ => rfl) (fun b hb _ => by have := HX1.out.size; omega) (fun x u h => h.keep (fun _ _ _ => rfl) (fun b hb _ => by have := HX1.out.size; omega)), HXR.out⟩
end Go.Proofs.YtlpcdpkgnfdpeaaGreatDoor
namespace P13
open P12 (T St E)
def prOk (x : St) : Prop := P12.isCr (P12.print x) = true ∧ P12.parse (P12.print x) = .ok x ∧ (P12.print x).length ≤ 4000
def dig (n : Nat) : T := if n < 10 then [UInt8.ofNat (48 + n)] else [49, UInt8.ofNat (38 + n)]
def col (i : Nat) : T := [UInt8.ofNat (97 + i)]
def tabN (t c : Nat) : T := 116 :: dig t
def tab (t c : Nat) (ks : List Ky) : Tb := { name := 116 :: dig t, cols := (List.range c).map fun i => (col i, 2, false), keys := ks }
def key (k w : Nat) : Ky := { name := 107 :: dig k, cols := List.range w }
def bodyT (c : Nat) : T := (List.range c).foldl (fun b i => (if 0 < i then b ++ [44, 32] else b) ++ col i ++ [32, 73, 78, 84]) []
def listT (w : Nat) : T := (List.range w).foldl (fun b i => (if 0 < i then b ++ [44, 32] else b) ++ col i) []
def createT (t c : Nat) : T := [67, 82, 69, 65, 84, 69, 32, 84, 65, 66, 76, 69, 32, 116] ++ dig t ++ [32, 40] ++ bodyT c ++ [41]
def indexT (k w : Nat) : T := [67, 82, 69, 65, 84, 69, 32, 73, 78, 68, 69, 88, 32, 107] ++ dig k ++ [32, 79, 78, 32, 116, 48, 32, 40] ++ listT w ++ [41]
theorem create_0 : (List.range 144).all (fun i => P12.isCr (createT (i / 12) (i % 12 + 1)) && (P12.print (createOf (tab (i / 12) (i % 12 + 1) [])) == createT (i / 12) (i % 12 + 1)) && decide ((createT (i / 12) (i % 12 + 1)).length ≤ 4000)) = true := by kernel_rfl
theorem create_1 : (List.range 144).map (fun i => P12.parse (createT (i / 12) (i % 12 + 1))) = (List.range 144).map (fun i => .ok (createOf (tab (i / 12) (i % 12 + 1) []))) := by kernel_rfl
theorem index_0 : (List.range 60).all (fun i => P12.isCr (indexT (i / 5) (i % 5 + 1)) && (P12.print (indexOf (tab 0 (i % 5 + 1) []) (key (i / 5) (i % 5 + 1))) == indexT (i / 5) (i % 5 + 1)) && decide ((indexT (i / 5) (i % 5 + 1)).length ≤ 4000)) = true := by kernel_rfl
theorem index_1 : (List.range 60).map (fun i => P12.parse (indexT (i / 5) (i % 5 + 1))) = (List.range 60).map (fun i => .ok (indexOf (tab 0 (i % 5 + 1) []) (key (i / 5) (i % 5 + 1)))) := by kernel_rfl
theorem map_at {α : Type} {f g : Nat → α} {n : Nat} (h : (List.range n).map f = (List.range n).map g) {i : Nat} (hi : i < n) : f i = g i := by
 have := congrArg (fun l => l[i]?) h
 simpa [hi] using this
theorem create_ok {t c : Nat} (ht : t < 12) (h1 : 1 ≤ c) (h2 : c ≤ 12) : P12.isCr (createT t c) = true ∧ P12.print (createOf (tab t c [])) = createT t c ∧ (createT t c).length ≤ 4000 ∧ P12.parse (createT t c) = .ok (createOf (tab t c [])) := by
 have e1 : (12 * t + (c - 1)) / 12 = t := by omega
 have e2 : (12 * t + (c - 1)) % 12 + 1 = c := by omega
 have a := List.all_eq_true.1 create_0 (12 * t + (c - 1)) (List.mem_range.2 (by omega))
 have b := map_at create_1 (i := 12 * t + (c - 1)) (by omega)
 rw [e1, e2] at a b
 simp only [Bool.and_eq_true, beq_iff_eq, decide_eq_true_eq] at a
 exact ⟨a.1.1, a.1.2, a.2, b⟩
theorem index_ok {k w : Nat} (hk : k < 12) (h1 : 1 ≤ w) (h2 : w ≤ 5) : P12.isCr (indexT k w) = true ∧ P12.print (indexOf (tab 0 w []) (key k w)) = indexT k w ∧ (indexT k w).length ≤ 4000 ∧ P12.parse (indexT k w) = .ok (indexOf (tab 0 w []) (key k w)) := by
 have e1 : (5 * k + (w - 1)) / 5 = k := by omega
 have e2 : (5 * k + (w - 1)) % 5 + 1 = w := by omega
 have a := List.all_eq_true.1 index_0 (5 * k + (w - 1)) (List.mem_range.2 (by omega))
 have b := map_at index_1 (i := 5 * k + (w - 1)) (by omega)
 rw [e1, e2] at a b
 simp only [Bool.and_eq_true, beq_iff_eq, decide_eq_true_eq] at a
 exact ⟨a.1.1, a.1.2, a.2, b⟩
theorem index_same {c w k : Nat} (h : w ≤ c) (ks : List Ky) : indexOf (tab 0 c ks) (key k w) = indexOf (tab 0 w []) (key k w) := by
 have : colNames (tab 0 c ks).cols (List.range w) = colNames (tab 0 w []).cols (List.range w) := by
  apply List.map_congr_left
  intro i hi
  have hi := List.mem_range.1 hi
  simp [tab, List.getD_eq_getElem?_getD, List.getElem?_range (show i < c by omega), List.getElem?_range hi]
 simp only [indexOf, key]
 rw [this]
 rfl
def schN (T c k w : Nat) : Sch := (List.range T).map fun t => tab t c (if t = 0 then (List.range k).map fun i => key i w else [])
theorem wf_0 : (List.range 9).all (fun T => (List.range 8).all fun c => wf (schN T (c + 1) 0 1)) = true := by kernel_rfl
theorem wf_1 : (List.range 8).all (fun T => (List.range 8).all fun c => (List.range 9).all fun k => (List.range (min 3 (c + 1))).all fun w => wf (schN (T + 1) (c + 1) k (w + 1))) = true := by kernel_rfl
end P13
namespace P13
open P12 (T St E)
theorem app_0 : (List.range 64).map (fun i => applied (schN (i / 8) (i % 8 + 1) 0 1) (createOf (tab (i / 8) (i % 8 + 1) []))) = (List.range 64).map fun i => .ok (schN (i / 8 + 1) (i % 8 + 1) 0 1) := by kernel_rfl
theorem app_1 : (List.range 32).map (fun i => applied (schN 8 (i % 8 + 1) 0 1) (createOf (tab (i / 8 + 8) (i % 8 + 1) []))) = (List.range 32).map fun _ => .error 134 := by kernel_rfl
theorem app_2 : (List.range 48).map (fun i => applied [] (createOf (tab (i / 4) (i % 4 + 9) []))) = (List.range 48).map fun _ => .error 134 := by kernel_rfl
def boxes (K W : Nat) : List (Nat × Nat × Nat × Nat) := (List.range 8).flatMap fun T => (List.range 8).flatMap fun c => (List.range K).flatMap fun k => (List.range W).filterMap fun w => if w ≤ c then some (T + 1, c + 1, k, w + 1) else none
theorem app_3 : (boxes 8 3).map (fun (T, c, k, w) => applied (schN T c k w) (indexOf (tab 0 w []) (key k w))) = (boxes 8 3).map fun (T, c, k, w) => .ok (schN T c (k + 1) w) := by kernel_rfl
theorem app_4 : (boxes 4 3).map (fun (T, c, k, w) => applied (schN T c 8 w) (indexOf (tab 0 w []) (key (k + 8) w))) = (boxes 4 3).map fun _ => .error 134 := by kernel_rfl
theorem app_5 : (boxes 12 5).map (fun (T, c, k, w) => if w ≤ 3 then Except.error (134 : Int) else applied (schN T c 0 1) (indexOf (tab 0 w []) (key k w))) = (boxes 12 5).map fun _ => .error 134 := by kernel_rfl
def knownT : T := [67, 82, 69, 65, 84, 69, 32, 84, 65, 66, 76, 69, 32, 116, 32, 40, 97, 32, 73, 78, 84, 32, 80, 82, 73, 77, 65, 82, 89, 32, 75, 69, 89, 44, 32, 98, 32, 84, 69, 88, 84, 32, 85, 78, 73, 81, 85, 69, 41]
def knownU : T := [67, 82, 69, 65, 84, 69, 32, 84, 65, 66, 76, 69, 32, 116, 32, 40, 97, 32, 73, 78, 84, 41]
def tK : Tb := { name := [116], cols := [([97], 2, true), ([98], 3, false)], keys := [{ cols := [0], uniq := true, prim := true }, { cols := [1], uniq := true }] }
def uK : Tb := { name := [116], cols := [([97], 2, false)] }
theorem known_1 : P12.isCr knownT = true ∧ P12.parse knownT = .ok (createOf tK) ∧ applied [] (createOf tK) = .ok [tK] ∧ wf [tK] = true := by refine ⟨?_, ?_, ?_, ?_⟩ <;> kernel_rfl
theorem known_2 : P12.isCr knownU = true ∧ P12.parse knownU = .ok (createOf uK) ∧ applied [tK] (createOf uK) = .error 131 := by refine ⟨?_, ?_, ?_⟩ <;> kernel_rfl
theorem known_3 : prOk (createOf tK) := ⟨by kernel_rfl, by kernel_rfl, by decide +kernel⟩
end P13
namespace P13
open P12 (T St E)
structure Fine (x : St) : Prop where
 pr : prOk x
 kept : x = P12.keptOf x
 cs : P12.isCS x
structure Good (s : Sch) : Prop where
 wf : wf s = true
 fine : ∀ x ∈ defs s, Fine x
theorem kept_create (t : Tb) : createOf t = P12.keptOf (createOf t) := by simp [P12.keptOf, createOf]
theorem kept_index (t : Tb) (k : Ky) : indexOf t k = P12.keptOf (indexOf t k) := by simp [P12.keptOf, indexOf]
theorem create_2 : (List.range 144).all (fun i => P12.tabOk (createOf (tab (i / 12) (i % 12 + 1) [])).tb []) = true := by kernel_rfl
theorem index_2 : (List.range 60).all (fun i => P12.isName (key (i / 5) (i % 5 + 1)).name && P12.isName (tab 0 1 []).name && P12.some (indexOf (tab 0 (i % 5 + 1) []) (key (i / 5) (i % 5 + 1))).cols 16 P12.isName) = true := by kernel_rfl
theorem create_cs {t c : Nat} (ht : t < 12) (h1 : 1 ≤ c) (h2 : c ≤ 12) : P12.isCS (createOf (tab t c [])) := by
 have e1 : (12 * t + (c - 1)) / 12 = t := by omega
 have e2 : (12 * t + (c - 1)) % 12 + 1 = c := by omega
 have a := List.all_eq_true.1 create_2 (12 * t + (c - 1)) (List.mem_range.2 (by omega))
 rw [e1, e2] at a
 exact .inl ⟨rfl, a, rfl⟩
theorem index_cs {k w : Nat} (hk : k < 12) (h1 : 1 ≤ w) (h2 : w ≤ 5) : P12.isCS (indexOf (tab 0 w []) (key k w)) := by
 have e1 : (5 * k + (w - 1)) / 5 = k := by omega
 have e2 : (5 * k + (w - 1)) % 5 + 1 = w := by omega
 have a := List.all_eq_true.1 index_2 (5 * k + (w - 1)) (List.mem_range.2 (by omega))
 rw [e1, e2] at a
 simp only [Bool.and_eq_true] at a
 exact .inr ⟨rfl, a.1.1, a.1.2, a.2⟩
theorem create_fine {t c : Nat} (ht : t < 12) (h1 : 1 ≤ c) (h2 : c ≤ 12) : Fine (createOf (tab t c [])) := by
 obtain ⟨a, b, d, e⟩ := create_ok ht h1 h2
 exact ⟨⟨by rw [b]; exact a, by rw [b]; exact e, by rw [b]; exact d⟩, kept_create _, create_cs ht h1 h2⟩
theorem index_fine {k w : Nat} (hk : k < 12) (h1 : 1 ≤ w) (h2 : w ≤ 5) : Fine (indexOf (tab 0 w []) (key k w)) := by
 obtain ⟨a, b, d, e⟩ := index_ok hk h1 h2
 exact ⟨⟨by rw [b]; exact a, by rw [b]; exact e, by rw [b]; exact d⟩, kept_index _ _, index_cs hk h1 h2⟩
theorem schN_fine {T c k w : Nat} (hT : T ≤ 12) (h1 : 1 ≤ c) (h2 : c ≤ 12) (hk : k ≤ 12) (h3 : 1 ≤ w) (h4 : w ≤ 5) (h5 : w ≤ c ∨ k = 0) : ∀ x ∈ defs (schN T c k w), Fine x := by
 intro x hx
 simp only [defs, schN, List.mem_flatMap, List.mem_map, List.mem_range] at hx
 obtain ⟨u, ⟨t, ht, rfl⟩, hx⟩ := hx
 have hks : ∀ q ∈ (if t = 0 then (List.range k).map fun i => key i w else []), ∃ i, i < k ∧ q = key i w := fun q hq => by
  split at hq
  ·obtain ⟨i, hi, rfl⟩ := List.mem_map.1 hq
   exact ⟨i, List.mem_range.1 hi, rfl⟩
  ·cases hq
 have e0 : (if t = 0 then (List.range k).map fun i => key i w else []).filter (fun q => q.name == []) = [] := by
  rw [List.filter_eq_nil_iff]
  intro q hq
  obtain ⟨i, -, rfl⟩ := hks q hq
  simp [key]
 rcases List.mem_cons.1 hx with rfl | hx
 ·have : createOf (tab t c (if t = 0 then (List.range k).map fun i => key i w else [])) = createOf (tab t c []) := by
   unfold createOf
   rw [show (tab t c (if t = 0 then (List.range k).map fun i => key i w else [])).keys = (if t = 0 then (List.range k).map fun i => key i w else []) from rfl, e0]
   rfl
  rw [this]
  exact create_fine (by omega) h1 h2
 ·obtain ⟨q, hq, rfl⟩ := List.mem_map.1 hx
  have hq := (List.mem_filter.1 hq).1
  obtain ⟨i, hi, rfl⟩ := hks q hq
  have ht0 : t = 0 := by
   by_cases h : t = 0
   ·exact h
   ·rw [show (tab t c (if t = 0 then (List.range k).map fun i => key i w else [])).keys = (if t = 0 then (List.range k).map fun i => key i w else []) from rfl, if_neg h] at hq
    cases hq
  subst ht0
  rw [index_same (by omega)]
  exact index_fine (by omega) h3 h4
theorem at_all {α : Type} {p : α → Bool} {l : List α} (h : l.all p = true) {x : α} (hx : x ∈ l) : p x = true := List.all_eq_true.1 h x hx
theorem good_0 {T c : Nat} (hT : T ≤ 8) (h1 : 1 ≤ c) (h2 : c ≤ 8) (w : Nat) : Good (schN T c 0 w) := by
 have e : schN T c 0 w = schN T c 0 1 := rfl
 rw [e]
 refine ⟨?_, schN_fine (by omega) h1 (by omega) (by omega) (by omega) (by omega) (.inr rfl)⟩
 have a := at_all (at_all wf_0 (List.mem_range.2 (show T < 9 by omega))) (List.mem_range.2 (show c - 1 < 8 by omega))
 rwa [show c - 1 + 1 = c by omega] at a
theorem good_1 {T c k w : Nat} (h0 : 1 ≤ T) (hT : T ≤ 8) (h1 : 1 ≤ c) (h2 : c ≤ 8) (hk : k ≤ 8) (h3 : 1 ≤ w) (h4 : w ≤ 3) (h5 : w ≤ c) : Good (schN T c k w) := by
 refine ⟨?_, schN_fine (by omega) h1 (by omega) (by omega) h3 (by omega) (.inl h5)⟩
 have a := at_all (at_all (at_all (at_all wf_1 (List.mem_range.2 (show T - 1 < 8 by omega))) (List.mem_range.2 (show c - 1 < 8 by omega))) (List.mem_range.2 (show k < 9 by omega))) (List.mem_range.2 (show w - 1 < min 3 (c - 1 + 1) by omega))
 rwa [show T - 1 + 1 = T by omega, show c - 1 + 1 = c by omega, show w - 1 + 1 = w by omega] at a
theorem good_known : Good [tK] := ⟨known_1.2.2.2, fun x hx => by
 have : x = createOf tK := by simpa [defs, defsT, tK] using hx
 subst this
 exact ⟨known_3, kept_create _, .inl ⟨rfl, by kernel_rfl, rfl⟩⟩⟩
theorem uK_cs : P12.isCS (createOf uK) := .inl ⟨rfl, by kernel_rfl, rfl⟩
theorem applied_tab {t c : Nat} (ht : t < 8) (h1 : 1 ≤ c) (h2 : c ≤ 8) : applied (schN t c 0 1) (createOf (tab t c [])) = .ok (schN (t + 1) c 0 1) := by
 have b := map_at app_0 (i := 8 * t + (c - 1)) (by omega)
 rwa [show (8 * t + (c - 1)) / 8 = t by omega, show (8 * t + (c - 1)) % 8 + 1 = c by omega] at b
theorem applied_more {t c : Nat} (h0 : 8 ≤ t) (ht : t < 12) (h1 : 1 ≤ c) (h2 : c ≤ 8) : applied (schN 8 c 0 1) (createOf (tab t c [])) = .error 134 := by
 have b := map_at app_1 (i := 8 * (t - 8) + (c - 1)) (by omega)
 rwa [show (8 * (t - 8) + (c - 1)) / 8 + 8 = t by omega, show (8 * (t - 8) + (c - 1)) % 8 + 1 = c by omega] at b
theorem applied_wide {t c : Nat} (ht : t < 12) (h1 : 9 ≤ c) (h2 : c ≤ 12) : applied [] (createOf (tab t c [])) = .error 134 := by
 have b := map_at app_2 (i := 4 * t + (c - 9)) (by omega)
 rwa [show (4 * t + (c - 9)) / 4 = t by omega, show (4 * t + (c - 9)) % 4 + 9 = c by omega] at b
theorem box_mem {K W T c k w : Nat} (h0 : 1 ≤ T) (hT : T ≤ 8) (h1 : 1 ≤ c) (h2 : c ≤ 8) (hk : k < K) (h3 : 1 ≤ w) (h4 : w ≤ W) (h5 : w ≤ c) : (T, c, k, w) ∈ boxes K W := by
 simp only [boxes, List.mem_flatMap, List.mem_filterMap, List.mem_range]
 exact ⟨T - 1, by omega, c - 1, by omega, k, hk, w - 1, by omega, by rw [if_pos (by omega), show T - 1 + 1 = T by omega, show c - 1 + 1 = c by omega, show w - 1 + 1 = w by omega]⟩
theorem map_mem {α β : Type} {f g : α → β} {l : List α} (h : l.map f = l.map g) {x : α} (hx : x ∈ l) : f x = g x := List.map_inj_left.1 h x hx
theorem applied_key {T c k w : Nat} (h0 : 1 ≤ T) (hT : T ≤ 8) (h1 : 1 ≤ c) (h2 : c ≤ 8) (hk : k < 8) (h3 : 1 ≤ w) (h4 : w ≤ 3) (h5 : w ≤ c) : applied (schN T c k w) (indexOf (tab 0 w []) (key k w)) = .ok (schN T c (k + 1) w) :=
 map_mem app_3 (box_mem h0 hT h1 h2 hk h3 h4 h5)
theorem applied_keys {T c k w : Nat} (h0 : 1 ≤ T) (hT : T ≤ 8) (h1 : 1 ≤ c) (h2 : c ≤ 8) (hk : 8 ≤ k) (hk2 : k < 12) (h3 : 1 ≤ w) (h4 : w ≤ 3) (h5 : w ≤ c) : applied (schN T c 8 w) (indexOf (tab 0 w []) (key k w)) = .error 134 := by
 have := map_mem app_4 (box_mem (k := k - 8) h0 hT h1 h2 (by omega) h3 h4 h5)
 dsimp only at this
 rwa [show k - 8 + 8 = k by omega] at this
theorem applied_great {T c k w : Nat} (h0 : 1 ≤ T) (hT : T ≤ 8) (h1 : 1 ≤ c) (h2 : c ≤ 8) (hk : k < 12) (h3 : 4 ≤ w) (h4 : w ≤ 5) (h5 : w ≤ c) : applied (schN T c 0 1) (indexOf (tab 0 w []) (key k w)) = .error 134 := by
 have := map_mem app_5 (box_mem h0 hT h1 h2 hk (by omega) h4 h5)
 dsimp only at this
 rwa [if_neg (by omega)] at this
end P13
namespace P13
open P12 (T St E)
structure TLim (t : Tb) : Prop where
 checks : t.checks = []
 pos : 0 < t.cols.length
 cols : t.cols.length ≤ 1000
 keys : t.keys.length ≤ 1000
 kcols : ∀ k ∈ t.keys, k.cols.length ≤ 1000
structure Lim (s : Sch) : Prop where
 tabs : s.length ≤ 1000
 all : ∀ t ∈ s, TLim t
theorem setKeys_lim : ∀ (l : List (List T)) (t t' : Tb) (i : Nat), setKeys t i l = .ok t' → TLim t → (∀ x ∈ l, x.length ≤ 1000) → TLim t' ∧ t'.name = t.name
 | [], t, t', i, h, ht, _ => by cases h; exact ⟨ht, rfl⟩
 | x :: l, t, t', i, h, ht, hl => by
  cases hp : places t.cols x with
  | none => unfold setKeys at h; rw [hp] at h; cases h
  | some r =>
   unfold setKeys at h
   rw [hp] at h
   dsimp only at h
   have hr := Go.Proofs.YtlpcdpkgnfdpeaaGreatDoor.P13.places_len hp
   have hx := hl x (by simp)
   obtain ⟨h1, h2⟩ := setKeys_lim l _ t' (i + 1) h ⟨ht.checks, by simpa [markCols] using ht.pos, by simpa [markCols] using ht.cols, by simpa using ht.keys, fun k hk => by
    rcases List.mem_or_eq_of_mem_set hk with hk | rfl
    ·exact ht.kcols k hk
    ·show r.length ≤ 1000
     omega⟩ (fun y hy => hl y (by simp [hy]))
   exact ⟨h1, h2⟩
theorem creates_lim {s s' : Sch} {x : St} (h : creates s x = .ok s') (hs : Lim s) (hq : x.tb.checks = []) (hp : 0 < x.tb.cols.length) : Lim s' := by
 unfold creates at h
 dsimp only at h
 split at h
 ·cases h
 ·split at h
  ·cases h
  ·rename_i hn
   split at h
   ·cases h
   ·cases hk : setKeys (ofTb x.tb) 0 x.keyCols with
    | error e => rw [hk] at h; cases h
    | ok t =>
     rw [hk] at h
     cases h
     have hn2 : (decide (8 ≤ s.length) || decide ((ofTb x.tb).cols.length < 1) || decide (8 < (ofTb x.tb).cols.length) || decide (8 < (ofTb x.tb).keys.length) || x.keyCols.any (fun l => decide (3 < l.length))) = false := by simpa using hn
     simp only [Bool.or_eq_false_iff, decide_eq_false_iff_not, List.any_eq_false, decide_eq_true_eq] at hn2
     obtain ⟨⟨⟨⟨h1, h2⟩, h3⟩, h4⟩, h5⟩ := hn2
     have ht : TLim (ofTb x.tb) := ⟨hq, hp, by omega, by omega, fun k hk => by
      simp only [ofTb, List.mem_map] at hk
      obtain ⟨p, -, rfl⟩ := hk
      simp⟩
     have hl := (setKeys_lim _ _ _ _ hk ht (fun y hy => by have := h5 y hy; omega)).1
     exact ⟨by rw [List.length_append, List.length_singleton]; omega, fun u hu => by
      rcases List.mem_append.1 hu with hu | hu
      ·exact hs.all u hu
      ·rw [List.mem_singleton.1 hu]; exact hl⟩
theorem indexes_lim {s s' : Sch} {x : St} (h : indexes s x = .ok s') (hs : Lim s) : Lim s' := by
 unfold indexes at h
 cases hf : find s x.on with
 | none => rw [hf] at h; cases h
 | some i =>
  rw [hf] at h
  dsimp only at h
  have hil : i < s.length := (List.findIdx?_eq_some_iff_getElem.1 hf).1
  have hti : s.getD i {} = s[i] := by rw [List.getD_eq_getElem?_getD, List.getElem?_eq_getElem hil]; rfl
  rw [hti] at h
  split at h
  ·cases h
  ·split at h
   ·cases h
   ·rename_i hn
    have hn2 : (decide (8 ≤ s[i].keys.length) || decide (3 < x.cols.length)) = false := by simpa using hn
    simp only [Bool.or_eq_false_iff, decide_eq_false_iff_not] at hn2
    cases hp : places s[i].cols x.cols with
    | none => rw [hp] at h; cases h
    | some r =>
     rw [hp] at h
     dsimp only at h
     split at h
     ·cases h
     ·cases h
      have hr := Go.Proofs.YtlpcdpkgnfdpeaaGreatDoor.P13.places_len hp
      have ht := hs.all s[i] (List.getElem_mem hil)
      refine ⟨by simpa using hs.tabs, fun u hu => ?_⟩
      rcases List.mem_or_eq_of_mem_set hu with hu | rfl
      ·exact hs.all u hu
      ·exact ⟨ht.checks, ht.pos, ht.cols, by simp; omega, fun k hk => by
        rcases List.mem_append.1 hk with hk | hk
        ·exact ht.kcols k hk
        ·rw [List.mem_singleton.1 hk]; show r.length ≤ 1000; omega⟩
theorem applied_lim {s s' : Sch} {x : St} (h : applied s x = .ok s') (hs : Lim s) (hq : x.kind = 1 → x.tb.checks = []) (hp : x.kind = 1 → 0 < x.tb.cols.length) : Lim s' := by
 unfold applied at h
 split at h
 ·rename_i hk; exact creates_lim h hs (hq hk) (hp hk)
 ·split at h
  ·exact indexes_lim h hs
  ·cases h
theorem run_lim : ∀ (l : List St) (s0 s : Sch), run s0 l = .ok s → Lim s0 → (∀ x ∈ l, (x.kind = 1 → x.tb.checks = []) ∧ (x.kind = 1 → 0 < x.tb.cols.length)) → ∀ q x, l[q]? = some x → ∃ sq sn, run s0 (l.take q) = .ok sq ∧ applied sq x = .ok sn ∧ Lim sq
 | [], _, _, _, _, _, q, x, hx => by cases hx
 | y :: l, s0, s, h, hs, hl, q, x, hx => by
  unfold run at h
  cases ha : applied s0 y with
  | error e => rw [ha] at h; cases h
  | ok s1 =>
   rw [ha] at h
   cases q with
   | zero =>
    simp only [List.getElem?_cons_zero, Option.some.injEq] at hx
    subst hx
    exact ⟨s0, s1, rfl, ha, hs⟩
   | succ q =>
    have h1 := applied_lim ha hs (hl y (by simp)).1 (hl y (by simp)).2
    obtain ⟨sq, sn, a, b, c⟩ := run_lim l s1 s h h1 (fun z hz => hl z (by simp [hz])) q x (by simpa using hx)
    exact ⟨sq, sn, by rw [List.take_succ_cons]; unfold run; rw [ha]; exact a, b, c⟩
theorem run_snoc {l : List St} {x : St} {s0 sq sn : Sch} (h : run s0 l = .ok sq) (ha : applied sq x = .ok sn) : run s0 (l ++ [x]) = .ok sn := by
 rw [run_append, h]
 show (match applied sq x with | .error e => .error e | .ok s => run s [] : Except Int Sch) = _
 rw [ha]
 rfl
end P13
