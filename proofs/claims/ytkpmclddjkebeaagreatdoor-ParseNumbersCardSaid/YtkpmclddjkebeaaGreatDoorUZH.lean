/- Walks: a DELETE is one, and its print; pantilelaw12.ParseNumbers. -/
import Derived.Test.YtkpmclddjkebeaaGreatDoorUZB
import Derived.Test.YtkpmclddjkebeaaGreatDoorUA
set_option linter.unusedSimpArgs false
set_option linter.unusedVariables false
set_option maxRecDepth 100000
set_option maxHeartbeats 8000000
namespace Go.Proofs.YtkpmclddjkebeaaGreatDoor
open Go.RowKit
theorem is_k7 (x : P12.St) (hs : P12.isS x) (hk : x.kind = 7) (S : Nat → Prop) (w : World) (l : List Value) (h : StmtIn S w x l) : Calls Tryz.prog 14 #[.agg l.toArray] w fun e w' => e = .returned (.bool true) ∧ Xk.Ext w w' := by
 obtain ⟨hwm, hjm⟩ := isS_maybe hs
 obtain ⟨tc, tk, tq, kc, cols, rows, sets, wh, items, frm, jn, grp, ord, h⟩ := h
 have hSame := fun W => same_at h hwm hjm W
 obtain ⟨hx, ho⟩ := hs
 have h1 : P12.isName x.name = true := by
  rcases ho with ⟨hk', -⟩ | ⟨hk', -⟩ | ⟨hk', -⟩ | ⟨hk', -⟩ | ⟨hk', -⟩ | ⟨hk', -⟩ | ⟨hk', h, -⟩ | ⟨hk', -⟩ | hk' | hk' | hk'
  all_goals first | exact h | (exfalso; omega)
 have hl := form_7 h hx hk
 have hm := fun W (hx' : Xk.Ext w W) => maybeE_any x.wher hwm S W wh (ExprAt.extS h.wh hx')
 obtain ⟨k1, o1, vk1, vi1, vs1, tb1, nm1, q1, m1, d1, rfl⟩ := h.wh.form
 exact is_del _ hk _ h1 k1 o1 vk1 vi1 vs1 tb1 nm1 q1 m1 d1 w l hl hm (fun W => kept_del _ hk _ k1 o1 vk1 vi1 vs1 tb1 nm1 q1 m1 d1 l hl W) hSame
theorem printDel_at {S : Nat → Prop} {w : World} {x : P12.St} {l : List Value} (hs : P12.isS x) (hk : x.kind = 7) (hE : Env w) (h : StmtIn S w x l) (hb : (P12.print x).length ≤ 1000000) :
  Calls Tryz.prog 15 #[.agg l.toArray] w fun r w' => r = .returned (.tuple #[bs (P12.print x), .int .i64 0]) ∧ Xk.Ext w w' := by
 have hp : P12.print x = [68, 69, 76, 69, 84, 69, 32, 70, 82, 79, 77, 32] ++ x.name ++ P12.whereText x.wher := by unfold P12.print; rw [if_neg (by omega), if_neg (by omega), if_neg (by omega), if_neg (by omega), if_neg (by omega), if_neg (by omega), if_pos hk]
 rw [hp] at hb ⊢
 rw [List.length_append, List.length_append] at hb
 obtain ⟨hwm, hjm⟩ := isS_maybe hs
 have hI : ∀ W, Xk.Ext w W → Calls Tryz.prog 14 #[.agg l.toArray] W fun e w' => e = .returned (.bool true) ∧ Xk.Ext W w' := fun W hx => is_k7 x hs hk S W l (h.at hx)
 obtain ⟨tc, tk, tq, kc, cols, rows, sets, wh, items, frm, jn, grp, ord, h⟩ := h
 have hl := form_7 h hs.1 hk
 have hW := fun W (hx : Xk.Ext w W) => where_at hE h.wh hwm (by omega) hx
 obtain ⟨k1, o1, vk1, vi1, vs1, tb1, nm1, q1, m1, d1, rfl⟩ := h.wh.form
 exact print_del _ hk _ (by omega) k1 o1 vk1 vi1 vs1 tb1 nm1 q1 m1 d1 l hl w _ (by omega) hW hI
end Go.Proofs.YtkpmclddjkebeaaGreatDoor
