/- What the claim's proof leans on, part 15: walks of functions and plain laws. -/
import Derived.Test.YtlpcdpkgnfdpeaaGreatDoorSA
import Derived.Test.YtlpcdpkgnfdpeaaGreatDoorSZF
set_option linter.unusedSimpArgs false
set_option linter.unusedVariables false
set_option maxRecDepth 100000
set_option maxHeartbeats 80000000
namespace P12
open P11 (Tok)
structure Gd (r : R) : Prop where
 good : Good r
 kts : ∃ a e, r.l = a ++ [e] ∧ e.kind = 0 ∧ ∀ t ∈ a, P11.good (P11.kt t)
abbrev PS := Except Er R
def okB : PS → Bool
 | .ok _ => true
 | .error _ => false
def Nx {α : Type} (F : R → Except Er (α × R)) (s : PS) (x : α) (s' : PS) : Prop :=
 match s with
 | .error e => s' = .error e
 | .ok r => match F r with
  | .error e => s' = .error e
  | .ok (y, r') => x = y ∧ s' = .ok r'
def failS (e : Int) : PS → PS
 | .error x => .error x
 | .ok r => .error ((nxt r).pos, e)
def isK (k : Int) (x : T) : PS → Bool
 | .error _ => false
 | .ok r => (nxt r).kind == k && (nxt r).text == x
def nextS : PS → PS
 | .error x => .error x
 | .ok r => .ok (takes r)
theorem good_kind {t : Tok} (h : P11.good (P11.kt t)) : t.kind ≠ 0 := by
 rcases h with ⟨k, -⟩ | ⟨k, -⟩ | ⟨k, -⟩ | ⟨k, -⟩ | ⟨k, -⟩ <;> (simp only [P11.kt] at k; omega)
theorem Gd.cases {r : R} (h : Gd r) : ((P12.nxt r).kind = 0 ∧ r.l.length = 1) ∨ (P11.good (P11.kt (P12.nxt r)) ∧ 1 < r.l.length ∧ Gd ⟨r.l.tail, r.deep⟩) := by
 obtain ⟨a, e, h1, h2, h3⟩ := h.kts
 cases a with
 | nil => exact .inl ⟨by unfold P12.nxt; rw [h1]; exact h2, by rw [h1]; rfl⟩
 | cons t a =>
  have hn : P12.nxt r = t := by unfold P12.nxt; rw [h1]; rfl
  have hg := h3 t (by simp)
  refine .inr ⟨by rw [hn]; exact hg, by rw [h1]; simp, ?_, a, e, by rw [h1]; rfl, h2, fun x hx => h3 x (by simp [hx])⟩
  have := h.good.takes
  rwa [takes_tail (by rw [hn]; exact good_kind hg)] at this
theorem Gd.takes {r : R} (h : Gd r) : Gd (takes r) := by
 rcases h.cases with ⟨h1, -⟩ | ⟨h1, -, h2⟩
 ·rw [takes_end h1]; exact h
 ·rw [takes_tail (good_kind h1)]; exact h2
theorem Gd.nxt {r : R} (h : Gd r) : (P12.nxt r).kind = 0 ∨ P11.good (P11.kt (P12.nxt r)) := h.cases.imp And.left And.left
theorem end_kind {r : R} (h : Good r) (hl : r.l.length ≤ 1) : (P12.nxt r).kind = 0 := by
 obtain ⟨a, e, h1, h2⟩ := h.ends
 have ha : a = [] := List.eq_nil_of_length_eq_zero (by rw [h1, List.length_append, List.length_singleton] at hl; omega)
 subst ha
 unfold P12.nxt
 rw [h1]
 exact h2
theorem kind_more {r : R} (h : Gd r) (hl : 1 < r.l.length) : (P12.nxt r).kind ≠ 0 := by
 rcases h.cases with ⟨-, h1⟩ | ⟨h1, -⟩
 ·omega
 ·exact good_kind h1
theorem lexed_gd {s : List UInt8} {l : List Tok} (h : P11.lexed s = .inl l) : Gd ⟨l, 0⟩ := by
 refine ⟨lexed_good h, ?_⟩
 unfold P11.lexed at h
 split at h
 ·cases h
 ·obtain ⟨l', rfl, hg⟩ := P11.toks_form _ s 0 l (Nat.le_refl _) h
  exact ⟨l', _, rfl, rfl, hg⟩
theorem isK_word {x : T} {r : R} (h : Gd r) (hx : P11.signs.contains x = false) : isK 2 x (.ok r) = isT x r := by
 unfold isK isT
 by_cases h2 : (P12.nxt r).kind = 2
 ·simp [h2]
 ·by_cases h5 : (P12.nxt r).kind = 5
  ·rcases h.nxt with h0 | h0
   ·omega
   ·have hs : (P12.nxt r).text ∈ P11.signs := by
     rcases h0 with ⟨k, -⟩ | ⟨k, -⟩ | ⟨k, -⟩ | ⟨k, -⟩ | ⟨-, k⟩ <;> first | (simp only [P11.kt] at k; omega) | exact k
    have hne : (P12.nxt r).text ≠ x := fun e => by
     rw [e] at hs
     rw [List.contains_iff_mem.2 hs] at hx
     cases hx
    simp [h5, hne]
  ·rw [show ((P12.nxt r).kind == 2) = false by simpa using h2, show ((P12.nxt r).kind == 5) = false by simpa using h5]; simp_all
theorem isK_sign {x : T} {r : R} (h : Gd r) (hx : P11.words.contains x = false) : isK 5 x (.ok r) = isT x r := by
 unfold isK isT
 by_cases h5 : (P12.nxt r).kind = 5
 ·simp [h5]
 ·by_cases h2 : (P12.nxt r).kind = 2
  ·rcases h.nxt with h0 | h0
   ·omega
   ·have hs : P11.words.contains (P12.nxt r).text = true := by
     rcases h0 with ⟨k, -⟩ | ⟨-, -, -, -, k⟩ | ⟨k, -⟩ | ⟨k, -⟩ | ⟨k, -⟩ <;> first | (simp only [P11.kt] at k; omega) | exact k
    have hne : (P12.nxt r).text ≠ x := fun e => by
     rw [e, hx] at hs
     cases hs
    simp [h2, hne]
  ·rw [show ((P12.nxt r).kind == 2) = false by simpa using h2, show ((P12.nxt r).kind == 5) = false by simpa using h5]; simp_all
end P12
namespace Go.Proofs.YtlpcdpkgnfdpeaaGreatDoor
open Go.RowKit
open _root_.P12 (PS Gd okB failS isK nextS Nx)
structure PsAt (bp b cap : Nat) (L : List P11.Tok) (i : Nat) (d a e : Int) (w : World) : Prop where
 blk : w.heap[bp]? = some (.cells #[.slice (some ⟨b, 0, none⟩) L.length cap, .int .i64 i, .int .i64 d, .int .i64 a, .int .i64 e] 79)
 lo : b < bp
 cap : L.length ≤ cap
 toks : TkRow b 0 L w
 hi : i < L.length
 len : L.length ≤ 8193
def Says (L : List P11.Tok) (i : Nat) (d a e : Int) : PS → Prop
 | .ok r => r.l = L.drop i ∧ d = r.deep ∧ e = 0 ∧ Gd r
 | .error x => a = x.1 ∧ e = x.2 ∧ e ≠ 0
def Ps (bp : Nat) (s : PS) (w : World) : Prop := ∃ b cap L i d a e, PsAt bp b cap L i d a e w ∧ Says L i d a e s
theorem PsAt.ext {bp b cap : Nat} {L : List P11.Tok} {i : Nat} {d a e : Int} {w w' : World} (h : PsAt bp b cap L i d a e w) (hx : Xk.Ext w w') : PsAt bp b cap L i d a e w' :=
 ⟨(hx.block bp (Array.getElem?_eq_some_iff.1 h.blk).1).trans h.blk, h.lo, h.cap, h.toks.ext hx, h.hi, h.len⟩
theorem Ps.ext {bp : Nat} {s : PS} {w w' : World} (h : Ps bp s w) (hx : Xk.Ext w w') : Ps bp s w' := by
 obtain ⟨b, cap, L, i, d, a, e, h, hs⟩ := h
 exact ⟨b, cap, L, i, d, a, e, h.ext hx, hs⟩
theorem PsAt.cells {bp b cap : Nat} {L : List P11.Tok} {i : Nat} {d a e : Int} {w : World} (h : PsAt bp b cap L i d a e w) : bp < w.heap.size ∧ w.cell? ⟨bp, 0, none⟩ = some (.slice (some ⟨b, 0, none⟩) L.length cap) ∧ w.cell? ⟨bp, 1, none⟩ = some (.int .i64 i) ∧ w.cell? ⟨bp, 2, none⟩ = some (.int .i64 d) ∧ w.cell? ⟨bp, 3, none⟩ = some (.int .i64 a) ∧ w.cell? ⟨bp, 4, none⟩ = some (.int .i64 e) := by
 refine ⟨(Array.getElem?_eq_some_iff.1 h.blk).1, ?_, ?_, ?_, ?_, ?_⟩ <;> simp [World.cell?, h.blk]
theorem PsAt.frozen {bp b cap : Nat} {L : List P11.Tok} {i : Nat} {d a e : Int} {w : World} (h : PsAt bp b cap L i d a e w) (o : Nat) : w.frozen? ⟨bp, o, none⟩ = false := frozen_of_row w bp o _ _ h.blk
theorem PsAt.tok {bp b cap : Nat} {L : List P11.Tok} {i : Nat} {d a e : Int} {w : World} (h : PsAt bp b cap L i d a e w) : ∃ t, L[i]? = some t ∧ b < w.heap.size ∧ w.cell? ⟨b, i * 3, none⟩ = some (.int .i64 t.kind) ∧ w.cell? ⟨b, i * 3 + 1, none⟩ = some (.string ⟨t.text.toArray⟩) ∧ w.cell? ⟨b, i * 3 + 2, none⟩ = some (.int .i64 t.pos) := by
 refine ⟨L[i]'h.hi, List.getElem?_eq_getElem _, h.toks.1, ?_⟩
 have := h.toks.2 i _ (List.getElem?_eq_getElem h.hi)
 simpa using this
theorem Says.tok {L : List P11.Tok} {i : Nat} {d a e : Int} {r : P12.R} {t : P11.Tok} (h : Says L i d a e (.ok r)) (ht : L[i]? = some t) : P12.nxt r = t := by
 obtain ⟨h1, -⟩ := h
 unfold P12.nxt
 rw [h1]
 simp [List.headD_eq_head?_getD, List.head?_drop, ht]
theorem okB_says {L : List P11.Tok} {i : Nat} {d a e : Int} {s : PS} (h : Says L i d a e s) : (e == 0) = okB s := by
 cases s with
 | ok r => simp [okB, h.2.2.1]
 | error x => simpa [okB] using h.2.2
theorem ok_any (bp : Nat) (s : PS) (w : World) (h : Ps bp s w) : Calls Tryz.prog 33 #[rp bp] w fun e w' => e = .returned (.bool (okB s)) ∧ w = w' := by
 obtain ⟨b, cap, L, i, d, a, e, h, hs⟩ := h
 obtain ⟨l0, c0, c1, c2, c3, c4⟩ := h.cells
 have ho := okB_says hs
 rw [← ho]
 clear h hs ho
 go_enter Tryz.func33, Tryz.ntmps33
 go_wp2_with fail
 go_ret
 exact ⟨rfl, rfl⟩
theorem tok_cells {a b c : Value} {T : TypeId} {W : World} {g : Nat} (h : W.heap[g]? = some (.cells [a, b, c].toArray T)) : g < W.heap.size ∧ W.cell? ⟨g, 0, none⟩ = some a ∧ W.cell? ⟨g, 1, none⟩ = some b ∧ W.cell? ⟨g, 2, none⟩ = some c := by
 refine ⟨(Array.getElem?_eq_some_iff.1 h).1, ?_, ?_, ?_⟩ <;> simp [World.cell?, h]
theorem tok_range {w : World} {b i : Nat} {x y z : Value} (h0 : w.cell? ⟨b, i * 3, none⟩ = some x) (h1 : w.cell? ⟨b, i * 3 + 1, none⟩ = some y) (h2 : w.cell? ⟨b, i * 3 + 2, none⟩ = some z) : w.rangeAt b (i * 3) [x, y, z] := fun j v hj => by
 match j, hj with
 | 0, hj => simp at hj; subst hj; simpa using h0
 | 1, hj => simp at hj; subst hj; exact h1
 | 2, hj => simp at hj; subst hj; exact h2
theorem tokbox {P : Prop} {Q : Nat → World → List Value → Prop} (k : ∀ g W tl, Q g W tl) (h : (∀ g W tl, Q g W tl) → P := by
 intro k
 have KQ := Lib.hid k
 clear k
 obtain ⟨tl, htl⟩ : ∃ tl : List Value, tl = [.int .i64 t.kind, .string ⟨t.text.toArray⟩, .int .i64 t.pos] := ⟨_, rfl⟩
 have htr := tok_range t0 t1 t2
 rw [← htl] at htr
 have HTL := Lib.hid htl
 clear htl
 refine Xd.wp_region_rel (E := ET w.heap.size (.cells tl.toArray 82)) (pre_ET _ _) 12 (fun _ => none) (fun _ _ h => by cases h) (fun _ _ _ _ h => by cases h) [(10, boxF 82 3 w.heap.size), (11, boxS 82 w.heap.size tl)] (by kernel_rfl) (by kernel_rfl) (Xd.stable_all ?_) ?_
 ·intro y hy
  simp only [List.mem_cons, List.not_mem_nil, or_false] at hy
  rcases hy with rfl | rfl
  ·exact boxF.et (by rw [HTL.out]; rfl)
  ·exact boxS.et
 simp only [List.take_succ_cons, List.take_zero, List.drop_succ_cons, List.drop_zero]
 (refine Xs.d ?_)
 (refine Xs.d ?_)
 (refine Xs.d ?_)
 (refine Xd.rel_det (pre_ET _ _) (Xk.wanted_none (by rfl)) (by rfl) (fun K hK => ?_); apply Exists.intro; refine ⟨fun W hx hp => ?_, ?_⟩; ((have c := et_cell hx rfl c0); go_simp; first | exact ⟨rfl, rfl⟩ | ((try refine ⟨by kernel_rfl, ?_⟩); (fail))); (go_simp; refine hK _ ?_; clear hK K))
 (refine Xs.d ?_)
 (refine Xs.d ?_)
 (refine Xs.d ?_)
 (refine Xd.rel_det (pre_ET _ _) (Xk.wanted_none (by rfl)) (by rfl) (fun K hK => ?_); apply Exists.intro; refine ⟨fun W hx hp => ?_, ?_⟩; ((have c := et_cell hx rfl c1); go_simp; first | exact ⟨rfl, rfl⟩ | ((try refine ⟨by kernel_rfl, ?_⟩); (fail))); (go_simp; refine hK _ ?_; clear hK K))
 (refine Xs.d ?_)
 refine Xd.ld (pre_ET _ _) 82 b (i * 3) tl Tryz.underlying82 (fun W hx => et_row hx rfl htr lb) ?_ (hi := by rw [HTL.out]; kernel_rfl)
 go_simp
 (refine Xd.rel_make (pre_ET _ _) (by rfl) (by rfl) (fun W hx hp => ?_) (fun r1 K hK => ?_); ((go_simp; exact et_new 82 _ _ hx (Nat.le_refl _) rfl _)); (go_simp; refine hK _ ?_; clear hK K))
 (refine Xd.rel_make (pre_ET _ _) (by rfl) (by rfl) (fun W hx hp => ?_) (fun r2 K hK => ?_); ((obtain ⟨g, c, rfl, hg, hc, hw⟩ := Xd.facts_head hp (by kernel_rfl); exact store_tab _ _ _ rfl g c _ _ rfl rfl hw (by rw [hc, HTL.out]; rfl) (by rw [HTL.out]; kernel_rfl) (by rw [HTL.out]; kernel_rfl) hg (fun W hW g' hg' _ => by cases hg'; exact hW))); (go_simp; refine hK _ ?_; clear hK K))
 refine Xd.rel_nil (fun W hx hp hG => ?_)
 obtain ⟨f2, f1, -⟩ := hp
 obtain ⟨g, c, rfl, hg, -, -⟩ := f1
 have hT := f2 g rfl hg
 have HXW := Lib.hid (ext_et (Below.refl _ _ : Xk.Ext w w) hx)
 rw [HTL.out] at hT
 obtain ⟨lg, x0, x1, x2⟩ := tok_cells hT
 clear f2 hG hT hx htr HTL
 revert lg x0 x1 x2 hg HXW
 exact KQ.out g W tl) : P := h k
theorem is_k (bp : Nat) (s : PS) (k : Int) (x : P12.T) (w : World) (h : Ps bp s w) : Calls Tryz.prog 157 #[rp bp, .int .i64 k, bs x] w fun e w' => e = .returned (.bool (isK k x s)) ∧ Xk.Ext w w' := by
 have HO := Lib.hid fun W (hx : Xk.Ext w W) => ok_any bp s W (h.ext hx)
 obtain ⟨b, cap, L, i, d, a, e, h, hs⟩ := h
 obtain ⟨l0, c0, c1, c2, c3, c4⟩ := h.cells
 obtain ⟨t, ht, lb, t0, t1, t2⟩ := h.tok
 have hi := h.hi
 have hlen := h.len
 have hib : (i : Int) < (L.length : Int) := by omega
 have hR : isK k x s = (okB s && ((t.kind == k) && (t.text == x))) := by
  cases s with
  | ok r => simp [isK, okB, hs.tok ht]
  | error y => rfl
 rw [hR]
 clear hR hs h
 generalize okB s = o at HO ⊢
 go_enter Tryz.func157, Tryz.ntmps157
 go_wp2_with fail
 refine tokbox fun g W tl => ?_
 intro hg HXW lg x0 x1 x2
 go_wp2_with fail
 refine (HO.out _ HXW.out).mono ?_
 rintro e' W2 ⟨rfl, rfl⟩
 cases o
 ·go_wp2_with fail
  go_ret
  exact ⟨rfl, HXW.out⟩
 ·by_cases hk : t.kind = k
  ·subst hk
   go_wp2_with fail
   go_ret
   exact ⟨by simp, HXW.out⟩
  ·have hk' : (t.kind == k) = false := by simpa using hk
   go_wp2_with fail
   go_ret
   exact ⟨by simp [hk'], HXW.out⟩
theorem word_k (bp : Nat) (s : PS) (x : P12.T) (w : World) (h : Ps bp s w) : Calls Tryz.prog 144 #[rp bp, bs x] w fun e w' => e = .returned (.bool (isK 2 x s)) ∧ Xk.Ext w w' := by
 have HI := Lib.hid (is_k bp s 2 x w h)
 clear h
 go_enter Tryz.func144, Tryz.ntmps144
 go_wp2_with (go_at_call 157; with_reducible refine Xk.cl (HI.out) fun p => ?_)
 go_ret
 exact ⟨rfl, Xk.xt⟩
theorem sign_k (bp : Nat) (s : PS) (x : P12.T) (w : World) (h : Ps bp s w) : Calls Tryz.prog 84 #[rp bp, bs x] w fun e w' => e = .returned (.bool (isK 5 x s)) ∧ Xk.Ext w w' := by
 have HI := Lib.hid (is_k bp s 5 x w h)
 clear h
 go_enter Tryz.func84, Tryz.ntmps84
 go_wp2_with (go_at_call 157; with_reducible refine Xk.cl (HI.out) fun p => ?_)
 go_ret
 exact ⟨rfl, Xk.xt⟩
theorem PsAt.set {bp b cap : Nat} {L : List P11.Tok} {i i' : Nat} {d a e d' a' e' : Int} {w : World} (h : PsAt bp b cap L i d a e w) {o : Nat} {v : Value} (hi : i' < L.length)
  (hc : (#[Value.slice (some ⟨b, 0, none⟩) L.length cap, .int .i64 i, .int .i64 d, .int .i64 a, .int .i64 e] : Array Value).setIfInBounds o v = #[.slice (some ⟨b, 0, none⟩) L.length cap, .int .i64 i', .int .i64 d', .int .i64 a', .int .i64 e']) : PsAt bp b cap L i' d' a' e' (w.setCell ⟨bp, o, none⟩ v) := by
 refine ⟨?_, h.lo, h.cap, ⟨by rw [World.size_setCell]; exact h.toks.1, fun j t hj => ?_⟩, hi, h.len⟩
 ·rw [heap_setCell_same w bp o _ _ v h.blk, hc]
 ·have hne : b ≠ bp := Nat.ne_of_lt h.lo
  obtain ⟨g1, g2, g3⟩ := h.toks.2 j t hj
  have hb : (w.setCell ⟨bp, o, none⟩ v).heap[b]? = w.heap[b]? := heap_setCell_other w ⟨bp, o, none⟩ b v (fun e => hne (by simpa using e))
  refine ⟨?_, ?_, ?_⟩ <;> (unfold World.cell? at *; simp only at *; rw [hb]; assumption)
theorem fail_k (bp : Nat) (s : PS) (x : Int) (hx : x ≠ 0) (w : World) (h : Ps bp s w) : Calls Tryz.prog 34 #[rp bp, .int .i64 x] w fun e w' => e = .returned (.tuple #[]) ∧ Turn bp w w' ∧ Ps bp (failS x s) w' := by
 obtain ⟨b, cap, L, i, d, a, e, h, hs⟩ := h
 obtain ⟨l0, c0, c1, c2, c3, c4⟩ := h.cells
 obtain ⟨t, ht, lb, t0, t1, t2⟩ := h.tok
 have hi := h.hi
 have hlen := h.len
 have hib : (i : Int) < (L.length : Int) := by omega
 have f0 := h.frozen 3
 have f1 := h.frozen 4
 have HH := Lib.hid h
 have HS := Lib.hid hs
 cases s with
 | error y =>
  have he : (e == 0) = false := by simpa using hs.2.2
  clear h hs
  go_enter Tryz.func34, Tryz.ntmps34
  go_wp2_with fail
  go_end0
  exact ⟨rfl, Turn.refl _ _, b, cap, L, i, d, a, e, HH.out, HS.out⟩
 | ok r =>
  have he : (e == 0) = true := by simpa using hs.2.2.1
  clear h hs
  go_enter Tryz.func34, Tryz.ntmps34
  go_wp2_with fail
  refine Xk.reg 14 (Xk.w0 fun p => ?_)
  go_wp2_with fail
  go_end0
  have hn := Says.tok HS.out ht
  exact ⟨rfl, (tu trivial), b, cap, L, i, d, t.pos, x, ((HH.out.set hi rfl).set hi rfl).ext (Xk.ext_exw _ _), by rw [hn], rfl, hx⟩
theorem next_k (bp : Nat) (s : PS) (w : World) (h : Ps bp s w) : Calls Tryz.prog 85 #[rp bp] w fun e w' => e = .returned (.tuple #[]) ∧ Turn bp w w' ∧ Ps bp (nextS s) w' := by
 have HO := Lib.hid fun W (hx : Xk.Ext w W) => ok_any bp s W (h.ext hx)
 obtain ⟨b, cap, L, i, d, a, e, h, hs⟩ := h
 obtain ⟨l0, c0, c1, c2, c3, c4⟩ := h.cells
 have hi := h.hi
 have hlen := h.len
 have f1 := h.frozen 1
 have HH := Lib.hid h
 have HS := Lib.hid hs
 clear h hs
 cases s with
 | error y =>
  have hO : ∀ W, Xk.Ext w W → Calls Tryz.prog 33 #[rp bp] W fun e w' => e = .returned (.bool false) ∧ W = w' := HO.out
  have HO := Lib.hid hO
  clear hO
  go_enter Tryz.func85, Tryz.ntmps85
  go_wp2_with fail
  refine Xk.reg 15 (Xk.w1 HO.out fun p => ?_)
  go_wp2_with fail
  go_end0
  exact ⟨rfl, (tu trivial), b, cap, L, i, d, a, e, HH.out.ext Xk.xt, HS.out⟩
 | ok r =>
  have hO : ∀ W, Xk.Ext w W → Calls Tryz.prog 33 #[rp bp] W fun e w' => e = .returned (.bool true) ∧ W = w' := HO.out
  have HO := Lib.hid hO
  clear hO
  have hwr : IntKind.i64.wrap ((i : Int) + 1) = (i : Int) + 1 := IntWalk.i64_in _ (by omega)
  by_cases hl : i + 1 < L.length
  ·have hlb : (i : Int) + 1 < (L.length : Int) := by omega
   go_enter Tryz.func85, Tryz.ntmps85
   go_wp2_with fail
   refine Xk.reg 15 (Xk.w1 HO.out fun p => ?_)
   go_wp2_with fail
   go_end0
   refine ⟨rfl, (tu trivial), b, cap, L, i + 1, d, a, e, (HH.out.set (i' := i + 1) hl (by simp)).ext (Xk.ext_exw _ _), ?_⟩
   obtain ⟨h1, h2, h3, h4⟩ := HS.out
   have hk : (P12.nxt r).kind ≠ 0 := P12.kind_more h4 (by rw [h1, List.length_drop]; omega)
   show Says L (i + 1) d a e (.ok (P12.takes r))
   refine ⟨?_, by rw [(P12.keeps_takes r).deep]; exact h2, h3, h4.takes⟩
   rw [P12.takes_tail hk, h1, List.tail_drop]
  ·have hlb : ¬ (i : Int) + 1 < (L.length : Int) := by omega
   go_enter Tryz.func85, Tryz.ntmps85
   go_wp2_with fail
   refine Xk.reg 15 (Xk.w1 HO.out fun p => ?_)
   go_wp2_with fail
   go_end0
   refine ⟨rfl, (tu trivial), b, cap, L, i, d, a, e, HH.out.ext Xk.xt, ?_⟩
   obtain ⟨h1, h2, h3, h4⟩ := HS.out
   have hk : (P12.nxt r).kind = 0 := P12.end_kind h4.good (by rw [h1, List.length_drop]; omega)
   show Says L i d a e (.ok (P12.takes r))
   rw [P12.takes_end hk]
   exact ⟨h1, h2, h3, h4⟩
end Go.Proofs.YtlpcdpkgnfdpeaaGreatDoor
namespace P12
def hasS (x : T) : PS → Bool × PS
 | .error e => (false, .error e)
 | .ok r => ((has x r).1, .ok (has x r).2)
def mustS (x : T) : PS → PS
 | .error e => .error e
 | .ok r => must x r
def nameS : PS → T × PS
 | .error e => ([], .error e)
 | .ok r => match name r with
  | .error e => ([], .error e)
  | .ok (x, r') => (x, .ok r')
def isNameS : PS → Bool
 | .error _ => false
 | .ok r => (nxt r).kind == 1
theorem hasS_eq (x : T) (s : PS) (b : Bool) (h : ∀ r, s = .ok r → b = isT x r) (h2 : okB s = false → b = false) : hasS x s = (b, if b = true then nextS s else s) := by
 cases s with
 | error e => rw [h2 rfl]; rfl
 | ok r =>
  have := h r rfl
  subst this
  cases hi : isT x r <;> simp [hasS, has, hi, nextS]
theorem mustS_eq (x : T) (s : PS) : mustS x s = if (hasS x s).1 = true then (hasS x s).2 else failS 120 (hasS x s).2 := by
 cases s with
 | error e => rfl
 | ok r =>
  cases hi : isT x r <;> simp [mustS, must, hasS, has, hi, failS, fails]
end P12
namespace Go.Proofs.YtlpcdpkgnfdpeaaGreatDoor
open Go.RowKit
open _root_.P12 (PS Gd okB failS isK nextS Nx hasS mustS nameS isNameS)
theorem Ps.gd {bp : Nat} {r : P12.R} {w : World} (h : Ps bp (.ok r) w) : Gd r := by
 obtain ⟨b, cap, L, i, d, a, e, -, h⟩ := h
 exact h.2.2.2
theorem may_k (bp : Nat) (s : PS) (x : P12.T) (hx : P11.signs.contains x = false) (w : World) (h : Ps bp s w) : Calls Tryz.prog 76 #[rp bp, bs x] w fun e w' => e = .returned (.bool (hasS x s).1) ∧ Turn bp w w' ∧ Ps bp (hasS x s).2 w' := by
 have hH := P12.hasS_eq x s (isK 2 x s) (fun r hr => by subst hr; exact P12.isK_word h.gd hx) (fun h => by cases s <;> first | rfl | cases h)
 have HI := Lib.hid (word_k bp s x w h)
 have HN := Lib.hid fun W (hx : Xk.Ext w W) => next_k bp s W (h.ext hx)
 have HP := Lib.hid h
 rw [hH]
 clear hH h
 cases hk : isK 2 x s
 ·rw [hk] at HI
  go_enter Tryz.func76, Tryz.ntmps76
  go_wp2_with (go_at_call 144; with_reducible refine Xk.cl (HI.out) fun p => ?_)
  go_ret
  exact ⟨rfl, (tu trivial), HP.out.ext Xk.xt⟩
 ·rw [hk] at HI
  go_enter Tryz.func76, Tryz.ntmps76
  go_wp2_with (go_at_call 144; with_reducible refine Xk.cl (HI.out) fun p => ?_)
  refine (HN.out _ Xk.xt).mono ?_
  rintro e w2 ⟨rfl, ht, hp⟩
  go_wp2_with fail
  go_ret
  exact ⟨rfl, Turn.trans (tu trivial) ht, hp⟩
theorem maySign_k (bp : Nat) (s : PS) (x : P12.T) (hx : P11.words.contains x = false) (w : World) (h : Ps bp s w) : Calls Tryz.prog 32 #[rp bp, bs x] w fun e w' => e = .returned (.bool (hasS x s).1) ∧ Turn bp w w' ∧ Ps bp (hasS x s).2 w' := by
 have hH := P12.hasS_eq x s (isK 5 x s) (fun r hr => by subst hr; exact P12.isK_sign h.gd hx) (fun h => by cases s <;> first | rfl | cases h)
 have HI := Lib.hid (sign_k bp s x w h)
 have HN := Lib.hid fun W (hx : Xk.Ext w W) => next_k bp s W (h.ext hx)
 have HP := Lib.hid h
 rw [hH]
 clear hH h
 cases hk : isK 5 x s
 ·rw [hk] at HI
  go_enter Tryz.func32, Tryz.ntmps32
  go_wp2_with (go_at_call 84; with_reducible refine Xk.cl (HI.out) fun p => ?_)
  go_ret
  exact ⟨rfl, (tu trivial), HP.out.ext Xk.xt⟩
 ·rw [hk] at HI
  go_enter Tryz.func32, Tryz.ntmps32
  go_wp2_with (go_at_call 84; with_reducible refine Xk.cl (HI.out) fun p => ?_)
  refine (HN.out _ Xk.xt).mono ?_
  rintro e w2 ⟨rfl, ht, hp⟩
  go_wp2_with fail
  go_ret
  exact ⟨rfl, Turn.trans (tu trivial) ht, hp⟩
theorem must_k (bp : Nat) (s : PS) (x : P12.T) (hx : P11.signs.contains x = false) (w : World) (h : Ps bp s w) : Calls Tryz.prog 79 #[rp bp, bs x] w fun e w' => e = .returned (.tuple #[]) ∧ Turn bp w w' ∧ Ps bp (mustS x s) w' := by
 have HM := Lib.hid (may_k bp s x hx w h)
 rw [P12.mustS_eq]
 clear h
 generalize hasS x s = q at HM ⊢
 obtain ⟨b, s'⟩ := q
 go_enter Tryz.func79, Tryz.ntmps79
 go_wp2_with fail
 refine HM.out.mono ?_
 rintro e w2 ⟨rfl, ht, hp⟩
 have HF := Lib.hid (fail_k bp s' 120 (by decide) w2 hp)
 have HT := Lib.hid ht
 have HP := Lib.hid hp
 clear ht hp
 cases b
 ·go_wp2_with fail
  refine HF.out.mono ?_
  rintro e w3 ⟨rfl, ht, hp⟩
  go_wp2_with fail
  go_end0
  exact ⟨rfl, Turn.trans HT.out ht, hp⟩
 ·go_wp2_with fail
  go_end0
  exact ⟨rfl, HT.out, HP.out⟩
theorem mustSign_k (bp : Nat) (s : PS) (x : P12.T) (hx : P11.words.contains x = false) (w : World) (h : Ps bp s w) : Calls Tryz.prog 146 #[rp bp, bs x] w fun e w' => e = .returned (.tuple #[]) ∧ Turn bp w w' ∧ Ps bp (mustS x s) w' := by
 have HM := Lib.hid (maySign_k bp s x hx w h)
 rw [P12.mustS_eq]
 clear h
 generalize hasS x s = q at HM ⊢
 obtain ⟨b, s'⟩ := q
 go_enter Tryz.func146, Tryz.ntmps146
 go_wp2_with fail
 refine HM.out.mono ?_
 rintro e w2 ⟨rfl, ht, hp⟩
 have HF := Lib.hid (fail_k bp s' 120 (by decide) w2 hp)
 have HT := Lib.hid ht
 have HP := Lib.hid hp
 clear ht hp
 cases b
 ·go_wp2_with fail
  refine HF.out.mono ?_
  rintro e w3 ⟨rfl, ht, hp⟩
  go_wp2_with fail
  go_end0
  exact ⟨rfl, Turn.trans HT.out ht, hp⟩
 ·go_wp2_with fail
  go_end0
  exact ⟨rfl, HT.out, HP.out⟩
end Go.Proofs.YtlpcdpkgnfdpeaaGreatDoor
namespace P12
def roomS (n most : Nat) (s : PS) : PS := if most < n then failS 122 s else s
def openS : PS → PS
 | .error e => .error e
 | .ok r => opens r
def closeS : PS → PS
 | .error e => .error e
 | .ok r => .ok (closes r)
theorem nameS_eq {r : R} : nameS (.ok r) = if (nxt r).kind ≠ 1 then ([], failS 120 (.ok r)) else if 24 < (nxt r).text.length then ([], failS 124 (.ok r)) else ((nxt r).text, nextS (.ok r)) := by
 by_cases h1 : (nxt r).kind = 1
 ·by_cases h2 : 24 < (nxt r).text.length <;> simp [nameS, name, h1, h2, fails, failS, nextS]
 ·simp [nameS, name, h1, fails, failS]
end P12
namespace Go.Proofs.YtlpcdpkgnfdpeaaGreatDoor
open Go.RowKit
open _root_.P12 (PS Gd okB failS isK nextS Nx hasS mustS nameS isNameS roomS openS closeS)
theorem isName_k (bp : Nat) (s : PS) (w : World) (h : Ps bp s w) : Calls Tryz.prog 148 #[rp bp] w fun e w' => e = .returned (.bool (isNameS s)) ∧ Xk.Ext w w' := by
 have HO := Lib.hid fun W (hx : Xk.Ext w W) => ok_any bp s W (h.ext hx)
 obtain ⟨b, cap, L, i, d, a, e, h, hs⟩ := h
 obtain ⟨l0, c0, c1, c2, c3, c4⟩ := h.cells
 obtain ⟨t, ht, lb, t0, t1, t2⟩ := h.tok
 have hi := h.hi
 have hlen := h.len
 have hib : (i : Int) < (L.length : Int) := by omega
 cases s with
 | error y =>
  have hO : ∀ W, Xk.Ext w W → Calls Tryz.prog 33 #[rp bp] W fun e w' => e = .returned (.bool false) ∧ W = w' := HO.out
  have HO := Lib.hid hO
  clear hO h hs
  go_enter Tryz.func148, Tryz.ntmps148
  go_wp2_with fail
  refine Xk.reg 17 (Xk.w1 HO.out fun p => ?_)
  go_wp2_with fail
  go_ret
  exact ⟨rfl, Xk.xt⟩
 | ok r =>
  have hO : ∀ W, Xk.Ext w W → Calls Tryz.prog 33 #[rp bp] W fun e w' => e = .returned (.bool true) ∧ W = w' := HO.out
  have HO := Lib.hid hO
  have hn := hs.tok ht
  show Calls _ _ _ _ fun e w' => e = .returned (.bool ((P12.nxt r).kind == 1)) ∧ _
  rw [hn]
  clear hO h hs
  go_enter Tryz.func148, Tryz.ntmps148
  go_wp2_with fail
  refine Xk.reg 17 (Xk.w1 HO.out fun p => ?_)
  go_wp2_with fail
  go_ret
  exact ⟨rfl, Xk.xt⟩
theorem name_k (bp : Nat) (s : PS) (w : World) (h : Ps bp s w) : Calls Tryz.prog 78 #[rp bp] w fun e w' => e = .returned (bs (nameS s).1) ∧ Turn bp w w' ∧ Ps bp (nameS s).2 w' := by
 have HI := Lib.hid (isName_k bp s w h)
 have HF := Lib.hid fun (x : Int) (hx : x ≠ 0) W (hxw : Xk.Ext w W) => fail_k bp s x hx W (h.ext hxw)
 have HN := Lib.hid fun W (hxw : Xk.Ext w W) => next_k bp s W (h.ext hxw)
 obtain ⟨b, cap, L, i, d, a, e, h, hs⟩ := h
 obtain ⟨l0, c0, c1, c2, c3, c4⟩ := h.cells
 obtain ⟨t, ht, lb, t0, t1, t2⟩ := h.tok
 have hi := h.hi
 have hlen := h.len
 have hib : (i : Int) < (L.length : Int) := by omega
 cases hk : isNameS s
 ·have hq : nameS s = ([], failS 120 s) := by
   cases s with
   | error y => rfl
   | ok r => rw [P12.nameS_eq, if_pos (by simpa [isNameS] using hk)]
  rw [hk] at HI
  rw [hq]
  clear h hs hq
  go_enter Tryz.func78, Tryz.ntmps78
  go_wp2_with (go_at_call 148; with_reducible refine Xk.cl (HI.out) fun p => ?_)
  refine (HF.out 120 (by decide) _ Xk.xt).mono ?_
  rintro e w2 ⟨rfl, ht, hp⟩
  go_wp2_with fail
  go_ret
  exact ⟨rfl, Turn.trans (tu trivial) ht, hp⟩
 ·cases s with
  | error y => cases hk
  | ok r =>
   have hn := hs.tok ht
   have hk1 : (P12.nxt r).kind = 1 := by simpa [isNameS] using hk
   rw [hk] at HI
   rw [P12.nameS_eq, if_neg (by simp [hk1]), hn]
   clear h hs
   by_cases hl : 24 < t.text.length
   ·rw [if_pos hl]
    have hlb : (24 : Int) < (t.text.length : Int) := by omega
    go_enter Tryz.func78, Tryz.ntmps78
    go_wp2_with (go_at_call 148; with_reducible refine Xk.cl (HI.out) fun p => ?_)
    refine Xk.reg 12 (Xk.w0 fun p => ?_)
    go_wp2_with fail
    refine (HF.out 124 (by decide) _ Xk.xt).mono ?_
    rintro e w2 ⟨rfl, ht, hp⟩
    go_wp2_with fail
    go_ret
    exact ⟨rfl, Turn.trans (tu trivial) ht, hp⟩
   ·rw [if_neg hl]
    have hlb : ¬ (24 : Int) < (t.text.length : Int) := by omega
    go_enter Tryz.func78, Tryz.ntmps78
    go_wp2_with (go_at_call 148; with_reducible refine Xk.cl (HI.out) fun p => ?_)
    refine Xk.reg 12 (Xk.w0 fun p => ?_)
    go_wp2_with fail
    refine (HN.out _ Xk.xt).mono ?_
    rintro e w2 ⟨rfl, ht, hp⟩
    go_wp2_with fail
    go_ret
    exact ⟨rfl, Turn.trans (tu trivial) ht, hp⟩
theorem room_k (bp : Nat) (s : PS) (n most : Nat) (w : World) (h : Ps bp s w) : Calls Tryz.prog 149 #[rp bp, .int .i64 n, .int .i64 most] w fun e w' => e = .returned (.tuple #[]) ∧ Turn bp w w' ∧ Ps bp (roomS n most s) w' := by
 have HF := Lib.hid (fail_k bp s 122 (by decide) w h)
 have HP := Lib.hid h
 clear h
 unfold roomS
 by_cases hm : most < n
 ·rw [if_pos hm]
  have hb : (most : Int) < (n : Int) := by omega
  go_enter Tryz.func149, Tryz.ntmps149
  go_wp2_with fail
  refine HF.out.mono ?_
  rintro e w2 ⟨rfl, ht, hp⟩
  go_wp2_with fail
  go_end0
  exact ⟨rfl, ht, hp⟩
 ·rw [if_neg hm]
  have hb : ¬ (most : Int) < (n : Int) := by omega
  go_enter Tryz.func149, Tryz.ntmps149
  go_wp2_with fail
  go_end0
  exact ⟨rfl, Turn.refl _ _, HP.out⟩
open _root_.P12 (PS Gd okB failS isK nextS Nx hasS mustS nameS isNameS roomS openS closeS)
end Go.Proofs.YtlpcdpkgnfdpeaaGreatDoor
namespace P12
open P11 (digit)
end P12
namespace Go.Proofs.YtlpcdpkgnfdpeaaGreatDoor
open Go.RowKit
open _root_.P12 (PS Gd okB failS isK nextS Nx hasS mustS nameS isNameS roomS openS closeS)
end Go.Proofs.YtlpcdpkgnfdpeaaGreatDoor
namespace P12
def begT (t : P11.Tok) : Bool := t.kind == 1 || t.kind == 3 || t.kind == 4 || (t.kind == 5 && (t.text == [40] || t.text == [45])) || (t.kind == 2 && (t.text == [78, 79, 84] || t.text == [84, 82, 85, 69] || t.text == [70, 65, 76, 83, 69] || t.text == [78, 85, 76, 76] || t.text == [67, 79, 85, 78, 84] || t.text == [83, 85, 77] || t.text == [77, 73, 78] || t.text == [77, 65, 88]))
def ownT (t : P11.Tok) : Int := if t.kind = 1 ∧ 24 < t.text.length then 124 else if t.kind = 3 ∧ ¬ dec t.text ≤ 9223372036854775807 then 123 else 0
end P12
namespace Go.Proofs.YtlpcdpkgnfdpeaaGreatDoor
open Go.RowKit
open _root_.P12 (PS Gd okB failS isK nextS Nx hasS mustS nameS isNameS roomS openS closeS)
end Go.Proofs.YtlpcdpkgnfdpeaaGreatDoor
namespace P12
def elementS (n most : Nat) : PS → PS
 | .error e => .error e
 | .ok r => if n ≤ most then .ok r else if begT (nxt r) = false then failS 120 (.ok r) else if ownT (nxt r) ≠ 0 then failS (ownT (nxt r)) (.ok r) else failS 122 (.ok r)
end P12
namespace Go.Proofs.YtlpcdpkgnfdpeaaGreatDoor
open Go.RowKit
open _root_.P12 (PS Gd okB failS isK nextS Nx hasS mustS nameS isNameS roomS openS closeS elementS)
end Go.Proofs.YtlpcdpkgnfdpeaaGreatDoor
namespace P12
end P12
namespace Go.Proofs.YtlpcdpkgnfdpeaaGreatDoor
open Go.RowKit
open _root_.P12 (PS Gd okB failS isK nextS Nx hasS mustS nameS isNameS roomS openS closeS elementS)
theorem Ps.lt {bp : Nat} {s : PS} {w : World} (h : Ps bp s w) : bp < w.heap.size := by
 obtain ⟨b, cap, L, i, d, a, e, h, -⟩ := h
 exact h.cells.1
theorem Ps.setCell {bp : Nat} {s : PS} {w : World} (h : Ps bp s w) {g : Nat} (hg : bp < g) (o : Nat) (u : Value) : Ps bp s (w.setCell ⟨g, o, none⟩ u) := by
 obtain ⟨b, cap, L, i, d, a, e, h, hs⟩ := h
 have lo := h.lo
 have hb : ∀ k, k ≠ g → (w.setCell ⟨g, o, none⟩ u).heap[k]? = w.heap[k]? := fun k hk => heap_setCell_other w ⟨g, o, none⟩ k u (fun e => hk (by simpa using e))
 refine ⟨b, cap, L, i, d, a, e, ⟨(hb bp (by omega)).trans h.blk, h.lo, h.cap, ⟨by rw [World.size_setCell]; exact h.toks.1, fun j t hj => ?_⟩, h.hi, h.len⟩, hs⟩
 obtain ⟨g1, g2, g3⟩ := h.toks.2 j t hj
 have hbb := hb b (by omega)
 refine ⟨?_, ?_, ?_⟩ <;> (unfold World.cell? at *; simp only at *; rw [hbb]; assumption)
end Go.Proofs.YtlpcdpkgnfdpeaaGreatDoor
namespace P12
end P12
namespace Go.Proofs.YtlpcdpkgnfdpeaaGreatDoor
open Go.RowKit
open _root_.P12 (PS Gd okB failS isK nextS Nx hasS mustS nameS isNameS roomS openS closeS elementS)
end Go.Proofs.YtlpcdpkgnfdpeaaGreatDoor
namespace P12
end P12
namespace Go.Proofs.YtlpcdpkgnfdpeaaGreatDoor
open Go.RowKit
open _root_.P12 (PS Gd okB failS isK nextS Nx hasS mustS nameS isNameS roomS openS closeS elementS)
end Go.Proofs.YtlpcdpkgnfdpeaaGreatDoor
namespace P12
end P12
namespace P12
end P12
namespace P12
def Sk (s s' : PS) : Prop := match s with
 | .error e => s' = .error e
 | .ok r => ∀ r', s' = .ok r' → Keeps r r'
theorem Sk.refl (s : PS) : Sk s s := by
 cases s with
 | error e => rfl
 | ok r => intro r' h; cases h; exact Keeps.refl r
theorem Sk.trans {a b c : PS} (h : Sk a b) (k : Sk b c) : Sk a c := by
 cases a with
 | error e => unfold Sk at h; dsimp only at h; subst h; exact k
 | ok r =>
  intro r' hc
  subst hc
  cases b with
  | error e => cases k
  | ok r1 => exact (h r1 rfl).trans (k r' rfl)
theorem sk_next (s : PS) : Sk s (nextS s) := by
 cases s with
 | error e => rfl
 | ok r => intro r' h; cases h; exact keeps_takes r
theorem sk_fail (c : Int) (s : PS) : Sk s (failS c s) := by
 cases s with
 | error e => rfl
 | ok r => intro r' h; cases h
theorem sk_has (x : T) (s : PS) : Sk s (hasS x s).2 := by
 cases s with
 | error e => rfl
 | ok r =>
  intro r' h
  unfold hasS has at h
  dsimp only at h
  cases hi : isT x r <;> rw [hi] at h <;> cases h
  ·exact Keeps.refl r
  ·exact keeps_takes r
theorem sk_must (x : T) (s : PS) : Sk s (mustS x s) := by
 rw [mustS_eq]
 cases (hasS x s).1
 ·exact (sk_has x s).trans (sk_fail _ _)
 ·exact sk_has x s
theorem sk_name (s : PS) : Sk s (nameS s).2 := by
 cases s with
 | error e => rfl
 | ok r =>
  rw [nameS_eq]
  split
  ·exact sk_fail _ _
  ·split
   ·exact sk_fail _ _
   ·exact sk_next _
end P12
namespace Go.Proofs.YtlpcdpkgnfdpeaaGreatDoor
open Go.RowKit
open _root_.P12 (PS Gd okB failS isK nextS Nx hasS mustS nameS isNameS roomS openS closeS elementS Sk)
def Cm {α : Type} (bp : Nat) (w0 : World) (s : PS) (V : Value → α → World → Prop) (F : P12.R → Except P12.Er (α × P12.R)) (e : Ending) (w' : World) : Prop :=
 ∃ v x s', e = .returned v ∧ V v x w' ∧ Turn bp w0 w' ∧ Ps bp s' w' ∧ Nx F s x s' ∧ Sk s s'
theorem Puts.ps {g br : Nat} {c : Array Value} {T : TypeId} {s : PS} {w w' : World} (h : Puts g c T w w') (hr : Ps br s w) (hg : br < g) : Ps br s w' := by
 obtain ⟨b, cap, L, i, d, a, e, hr, hs⟩ := hr
 have hl := hr.lo
 have hk : ∀ {c o' : Nat} {v : Value}, c ≠ g → w.cell? ⟨c, o', none⟩ = some v → w'.cell? ⟨c, o', none⟩ = some v := fun {c o' v} hne hc => by
  rw [World.cell?_of_block (h.rest c hne)]; exact hc
 refine ⟨b, cap, L, i, d, a, e, ⟨(h.rest br (by omega)).trans hr.blk, hr.lo, hr.cap, ⟨by rw [h.size]; exact hr.toks.1, fun j t hj => ?_⟩, hr.hi, hr.len⟩, hs⟩
 obtain ⟨h1, h2, h3⟩ := hr.toks.2 j t hj
 exact ⟨hk (by omega) h1, hk (by omega) h2, hk (by omega) h3⟩
end Go.Proofs.YtlpcdpkgnfdpeaaGreatDoor
namespace P12
theorem hasS_no {x : T} {s : PS} (h : (hasS x s).1 = false) : (hasS x s).2 = s ∧ ∀ r, s = .ok r → isT x r = false := by
 cases s with
 | error e => exact ⟨rfl, fun r e => by cases e⟩
 | ok r =>
  unfold hasS has at h ⊢
  dsimp only at h ⊢
  cases hi : isT x r <;> rw [hi] at h
  ·exact ⟨rfl, fun r' e => by cases e; exact hi⟩
  ·cases h
theorem hasS_yes {x : T} {s : PS} (h : (hasS x s).1 = true) : ∃ r, s = .ok r ∧ isT x r = true ∧ (hasS x s).2 = .ok (takes r) := by
 cases s with
 | error e => cases h
 | ok r =>
  unfold hasS has at h ⊢
  dsimp only at h ⊢
  cases hi : isT x r <;> rw [hi] at h
  ·cases h
  ·exact ⟨r, rfl, hi, rfl⟩
end P12
namespace Go.Proofs.YtlpcdpkgnfdpeaaGreatDoor
open Go.RowKit
open _root_.P12 (PS Gd okB failS isK nextS Nx hasS mustS nameS isNameS roomS openS closeS elementS Sk)
def psLen (br : Nat) (w : World) : Nat := match w.cell? ⟨br, 0, none⟩, w.cell? ⟨br, 1, none⟩, w.cell? ⟨br, 4, none⟩ with
 | some (.slice _ n _), some (.int _ i), some (.int _ e) => if e = 0 then n - i.toNat else 0
 | _, _, _ => 0
theorem Ps.len {br : Nat} {r : P12.R} {w : World} (h : Ps br (.ok r) w) : psLen br w = r.l.length := by
 obtain ⟨b, cap, L, i, d, a, e, h, h1, h2, rfl, -⟩ := h
 obtain ⟨l0, c0, c1, c2, c3, c4⟩ := h.cells
 simp only [psLen, c0, c1, c4, if_true]
 rw [h1, List.length_drop]
 simp
theorem Ps.len0 {br : Nat} {x : P12.Er} {w : World} (h : Ps br (.error x) w) : psLen br w = 0 := by
 obtain ⟨b, cap, L, i, d, a, e, h, h1, h2, h3⟩ := h
 obtain ⟨l0, c0, c1, c2, c3, c4⟩ := h.cells
 simp only [psLen, c0, c1, c4, if_neg h3]
open _root_.P12 (PS Gd okB failS isK nextS Nx hasS mustS nameS isNameS roomS openS closeS elementS Sk)
end Go.Proofs.YtlpcdpkgnfdpeaaGreatDoor
namespace P12
end P12
namespace Go.Proofs.YtlpcdpkgnfdpeaaGreatDoor
open Go.RowKit
open _root_.P12 (PS Gd okB failS isK nextS Nx hasS mustS nameS isNameS roomS openS closeS elementS Sk)
theorem xal (w : World) (o : Obj) : Xk.Ext w (w.alloc o) := (Below.refl _ _).alloc (Nat.le_refl _) _
end Go.Proofs.YtlpcdpkgnfdpeaaGreatDoor
namespace P12
end P12
namespace Go.Proofs.YtlpcdpkgnfdpeaaGreatDoor
open Go.RowKit
open _root_.P12 (PS Gd okB failS isK nextS Nx hasS mustS nameS isNameS roomS openS closeS elementS Sk)
end Go.Proofs.YtlpcdpkgnfdpeaaGreatDoor
namespace P12
def inS (s : PS) : PS := mustS [40] (if isK 5 [40] s = true then openS s else s)
end P12
namespace Go.Proofs.YtlpcdpkgnfdpeaaGreatDoor
open Go.RowKit
open _root_.P12 (PS Gd okB failS isK nextS Nx hasS mustS nameS isNameS roomS openS closeS elementS Sk inS)
theorem Ps.gds {bp : Nat} {s : PS} {w : World} (h : Ps bp s w) : ∀ r, s = .ok r → Gd r := fun r e => by subst e; exact h.gd
end Go.Proofs.YtlpcdpkgnfdpeaaGreatDoor
namespace P12
end P12
namespace P12
def Rw {α : Type} (F : R → Except Er (List α × R)) (most : Nat) (could : R → Bool) (read : R → Except Er (α × R)) (s s' : PS) (xs : List α) : Prop :=
 Sk s s' ∧ ∃ f, (∀ r, s' = .ok r → r.l.length ≤ f) ∧ ∀ X S', Nx (rowF most could read f xs.length) s' X S' → Nx F s (xs ++ X) S'
theorem Rw.start {α : Type} (most : Nat) (could : R → Bool) (read : R → Except Er (α × R)) (s : PS) : Rw (fun r => rowF most could read r.l.length 0 r) most could read s s [] := by
 refine ⟨Sk.refl s, ?_⟩
 cases s with
 | error e => exact ⟨0, fun r e => (by cases e), fun X S' h => h⟩
 | ok r => exact ⟨r.l.length, fun r' e => (by cases e; exact Nat.le_refl _), fun X S' h => h⟩
theorem Rw.err {α : Type} {F : R → Except Er (List α × R)} {most : Nat} {could : R → Bool} {read : R → Except Er (α × R)} {s : PS} {e : Er} {xs : List α} (h : Rw F most could read s (.error e) xs) : Nx F s xs (.error e) := by
 obtain ⟨-, f, -, h⟩ := h
 have := h [] (.error e) rfl
 rwa [List.append_nil] at this
def roomC (most n : Nat) (could : R → Bool) : PS → PS
 | .error e => .error e
 | .ok r => if (decide (most < n + 1) && could r) = true then failS 122 (.ok r) else .ok r
theorem sk_room (most n : Nat) (could : R → Bool) (s : PS) : Sk s (roomC most n could s) := by
 cases s with
 | error e => rfl
 | ok r =>
  unfold roomC
  dsimp only
  split
  ·exact sk_fail _ _
  ·exact Sk.refl _
theorem row_step {α : Type} {most : Nat} {could : R → Bool} {read : R → Except Er (α × R)} {f n : Nat} {r : R} {y : α} {s2 : PS} (h2 : Nx read (roomC most n could (.ok r)) y s2) :
  ((hasS [44] s2).1 = false → Nx (rowF most could read (f + 1) n) (.ok r) [y] s2) ∧ ∀ X S', (hasS [44] s2).1 = true → Nx (rowF most could read f (n + 1)) (hasS [44] s2).2 X S' → Nx (rowF most could read (f + 1) n) (.ok r) (y :: X) S' := by
 unfold roomC at h2
 dsimp only at h2
 by_cases hc : (decide (most < n + 1) && could r) = true
 ·rw [if_pos hc] at h2
  have h3 : s2 = failS 122 (.ok r) := h2
  subst h3
  refine ⟨fun _ => ?_, fun X S' h => by cases h⟩
  unfold Nx
  dsimp only
  rw [rowF, if_pos hc]
  rfl
 ·rw [if_neg hc] at h2
  unfold Nx at h2 ⊢
  dsimp only at h2 ⊢
  rw [rowF, if_neg hc]
  cases hr : read r with
  | error e =>
   rw [hr] at h2
   dsimp only at h2 ⊢
   subst h2
   exact ⟨fun _ => rfl, fun X S' h => by cases h⟩
  | ok p =>
   obtain ⟨x, r2⟩ := p
   rw [hr] at h2
   dsimp only at h2 ⊢
   obtain ⟨rfl, rfl⟩ := h2
   unfold hasS has
   dsimp only
   cases hi : isT [44] r2
   ·simp only [Bool.false_eq_true, if_false, and_self, true_implies, false_implies, implies_true]
   ·simp only [if_true, true_implies, Bool.true_eq_false, false_implies, true_and]
    intro X S' h
    cases hq : rowF most could read f (n + 1) (takes r2) with
    | error e => rw [hq] at h; exact h
    | ok q =>
     rw [hq] at h
     obtain ⟨rfl, rfl⟩ := h
     exact ⟨rfl, rfl⟩
theorem Rw.step {α : Type} {F : R → Except Er (List α × R)} {most : Nat} {could : R → Bool} {read : R → Except Er (α × R)} {s : PS} {r : R} {xs : List α} (h : Rw F most could read s (.ok r) xs) (hg : Gd r) {y : α} {s2 : PS} (h2 : Nx read (roomC most xs.length could (.ok r)) y s2) (hs : Sk (roomC most xs.length could (.ok r)) s2) :
  ((hasS [44] s2).1 = false → Nx F s (xs ++ [y]) s2 ∧ Sk s s2) ∧ ((hasS [44] s2).1 = true → Rw F most could read s (hasS [44] s2).2 (xs ++ [y]) ∧ ∀ r3, (hasS [44] s2).2 = .ok r3 → r3.l.length < r.l.length) := by
 obtain ⟨h0, f, h1, h⟩ := h
 have hp := hg.good.pos
 have hsk : Sk (.ok r) s2 := (sk_room _ _ _ _).trans hs
 obtain ⟨f, rfl⟩ : ∃ k, f = k + 1 := ⟨f - 1, by have := h1 r rfl; omega⟩
 have hst := row_step (f := f) h2
 refine ⟨fun hb => ⟨h _ _ (hst.1 hb), h0.trans hsk⟩, fun hb => ?_⟩
 have hlt : ∀ r3, (hasS [44] s2).2 = .ok r3 → r3.l.length < r.l.length := fun r3 e => by
  obtain ⟨r2, rfl, ht, hs2⟩ := P12.hasS_yes hb
  rw [hs2] at e
  cases e
  have hk := hsk r2 rfl
  have h3 : r2.l ≠ [] := fun e => by
   unfold isT nxt at ht
   rw [e] at ht
   simp at ht
  have h4 := takes_tail (isT_kind ht)
  have h5 := hk.suf.length_le
  have h6 := List.length_pos_iff.2 h3
  rw [h4]
  simp only [List.length_tail]
  omega
 refine ⟨⟨h0.trans (hsk.trans (sk_has _ _)), f, fun r3 e => (by have := hlt r3 e; have := h1 r rfl; omega), fun X S' hX => ?_⟩, hlt⟩
 have := h _ _ (hst.2 X S' hb (by rwa [List.length_append, List.length_singleton] at hX))
 rwa [List.append_assoc, List.singleton_append]
def inRow {α : Type} (F : R → Except Er (List α × R)) (r : R) : Except Er (List α × R) :=
 match F r with
 | .error e => .error e
 | .ok (l, r) =>
  match must [41] r with
  | .error e => .error e
  | .ok r => .ok (l, r)
theorem nx_inRow {α : Type} {F : R → Except Er (List α × R)} {s s1 : PS} {l : List α} (h : Nx F s l s1) : Nx (inRow F) s l (mustS [41] s1) := by
 cases s with
 | error e => cases h; rfl
 | ok r =>
  unfold Nx at h ⊢
  dsimp only at h ⊢
  unfold inRow
  cases hF : F r with
  | error e => rw [hF] at h; cases h; rfl
  | ok p =>
   rw [hF] at h
   obtain ⟨rfl, rfl⟩ := h
   dsimp only [mustS]
   cases must [41] p.2 with
   | error e => rfl
   | ok r2 => exact ⟨rfl, rfl⟩
end P12
namespace P12
end P12
namespace P12
theorem nx_bind {α β : Type} {F : R → Except Er (α × R)} {G : α × R → Except Er (β × R)} {s s1 s2 : PS} {x : α} {y : β} (h1 : Nx F s x s1) (h2 : Nx (fun r => G (x, r)) s1 y s2) : Nx (fun r => F r >>= G) s y s2 := by
 cases s with
 | error e => cases h1; exact h2
 | ok r =>
  unfold Nx at h1 ⊢
  dsimp only at h1 ⊢
  cases hF : F r with
  | error e => rw [hF] at h1; cases h1; exact h2
  | ok p =>
   rw [hF] at h1
   obtain ⟨rfl, rfl⟩ := h1
   exact h2
theorem nx_must {β : Type} {G : R → Except Er (β × R)} {s s2 : PS} {t : T} {y : β} (h : Nx G (mustS t s) y s2) : Nx (fun r => must t r >>= G) s y s2 := by
 cases s with
 | error e => exact h
 | ok r =>
  unfold mustS at h
  unfold Nx at h ⊢
  dsimp only at h ⊢
  cases hF : must t r with
  | error e => rw [hF] at h; exact h
  | ok r1 => rw [hF] at h; exact h
theorem nx_ok {α : Type} (x : α) (s : PS) : Nx (fun r => .ok (x, r)) s x s := by
 cases s with
 | error e => rfl
 | ok r => exact ⟨rfl, rfl⟩
theorem nx_yes {β : Type} {A B : R → Except Er (β × R)} {s s2 : PS} {t : T} {y : β} (hb : (hasS t s).1 = true) (h : Nx A (hasS t s).2 y s2) : Nx (fun r => if isT t r = true then A (takes r) else B r) s y s2 := by
 obtain ⟨r, rfl, h1, h2⟩ := hasS_yes hb
 rw [h2] at h
 unfold Nx at h ⊢
 dsimp only at h ⊢
 rw [if_pos h1]
 exact h
theorem nx_no {β : Type} {A B : R → Except Er (β × R)} {s s2 : PS} {t : T} {y : β} (hb : (hasS t s).1 = false) (h : Nx B s y s2) : Nx (fun r => if isT t r = true then A r else B r) s y s2 := by
 obtain ⟨-, h2⟩ := hasS_no hb
 cases s with
 | error e => exact h
 | ok r =>
  unfold Nx at h ⊢
  dsimp only at h ⊢
  rw [if_neg (by rw [h2 r rfl]; simp)]
  exact h
theorem nx_name (s : PS) : Nx name s (nameS s).1 (nameS s).2 := by
 cases s with
 | error e => rfl
 | ok r =>
  unfold nameS Nx
  dsimp only
  cases name r with
  | error e => rfl
  | ok p => exact ⟨rfl, rfl⟩
theorem nx_gd {α : Type} {F G : R → Except Er (α × R)} {s s' : PS} {x : α} (h : Nx F s x s') (e : ∀ r, s = .ok r → F r = G r) : Nx G s x s' := by
 cases s with
 | error e => exact h
 | ok r =>
  unfold Nx at h ⊢
  dsimp only at h ⊢
  rwa [← e r rfl]
end P12
namespace Go.Proofs.YtlpcdpkgnfdpeaaGreatDoor
open Go.RowKit
open _root_.P12 (PS Gd okB failS isK nextS Nx hasS mustS nameS isNameS roomS openS closeS elementS Sk inS)
open _root_.P12 (PS Gd okB failS isK nextS Nx hasS mustS nameS isNameS roomS openS closeS elementS Sk inS)
end Go.Proofs.YtlpcdpkgnfdpeaaGreatDoor
