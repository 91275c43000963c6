/- What the claim's proof leans on, part 16: walks of functions and plain laws. -/
import Derived.Test.YtlpcdpkgnfdpeaaGreatDoorSO
import Derived.Test.YtlpcdpkgnfdpeaaGreatDoorSH
import Derived.Test.YtlpcdpkgnfdpeaaGreatDoorSE
set_option linter.unusedSimpArgs false
set_option linter.unusedVariables false
set_option maxRecDepth 100000
set_option maxHeartbeats 80000000
namespace Go.Proofs.YtlpcdpkgnfdpeaaGreatDoor
open Go.RowKit
open _root_.P12 (PS Gd okB failS isK nextS Nx hasS mustS nameS isNameS roomS openS closeS elementS Sk inS Rw roomC inRow)
theorem psLen_le {br : Nat} {s : PS} {w : World} (h : Ps br s w) : psLen br w ≤ 8193 := by
 cases s with
 | error e => rw [h.len0]; omega
 | ok r =>
  rw [h.len]
  obtain ⟨b, cap, L, i, d, a, e, h, h1, -⟩ := h
  have := h.len
  rw [h1, List.length_drop]
  omega
abbrev namesF : P12.R → Except P12.Er (List P12.T × P12.R) := fun r => P12.rowF 16 P12.named P12.name r.l.length 0 r
theorem Gath.slc0 {α : Type} {B : Nat} {e : TypeId} {sz : Nat} {R : (Nat → Prop) → World → α → List Value → Prop} {xs : List α} {v : Value} {w : World} (h : Gath B e sz R xs v w) (hR : Stab R) (hs : 0 < sz) (h0 : xs = [] → v = nilS) : SlcAt (fun b => B ≤ b) w sz (R (fun b => B ≤ b) w) xs v := by
 cases xs with
 | nil => exact .inl ⟨rfl, h0 rfl⟩
 | cons x xs => exact h.slc hR (by simp) hs
theorem Gath.form {α : Type} {B : Nat} {e : TypeId} {sz : Nat} {R : (Nat → Prop) → World → α → List Value → Prop} {xs : List α} {v : Value} {w : World} (h : Gath B e sz R xs v w) : ∃ q c, v = .slice q xs.length c := by
 obtain ⟨us, ho, -⟩ := h
 rcases ho.2 with ⟨rfl, h0⟩ | ⟨g, cap, cur, rfl, -⟩
 ·exact ⟨none, 0, by rw [h0]⟩
 ·exact ⟨_, _, rfl⟩
theorem grown_al {w w' : World} {o : Obj} {k : Option Nat} (h : (w.alloc o).grownBy w' k) : w.grownBy w' k :=
 ⟨h.os, h.tape, h.output, Nat.le_trans (by rw [World.size_alloc]; omega) h.size, fun b hb hk => (h.block b (by rw [World.size_alloc]; omega) hk).trans ((Turn.alloc (Turn.refl w.heap.size w) o).block hb (by omega))⟩
theorem Ps.grown {br : Nat} {s : PS} {w w' : World} {k : Option Nat} (h : Ps br s w) (hg : w.grownBy w' k) (hk : ∀ b, k = some b → br < b) : Ps br s w' := by
 obtain ⟨b, cap, L, i, d, a, e, h, hs⟩ := h
 have hl := h.lo
 have hb : ∀ x, x ≤ br → x < w.heap.size → w'.heap[x]? = w.heap[x]? := fun x hx hlt => hg.block x hlt (fun e => by have := hk x e.symm; omega)
 have hc : ∀ {c o : Nat} {v : Value}, c ≤ br → w.cell? ⟨c, o, none⟩ = some v → w'.cell? ⟨c, o, none⟩ = some v := fun {c o v} hle hc => by
  rw [World.cell?_of_block (hb c hle (World.block_lt_of_cell? _ _ hc))]; exact hc
 refine ⟨b, cap, L, i, d, a, e, ⟨(hb br (Nat.le_refl _) (Array.getElem?_eq_some_iff.1 h.blk).1).trans h.blk, h.lo, h.cap, ⟨Nat.lt_of_lt_of_le h.toks.1 hg.size, fun j t hj => ?_⟩, h.hi, h.len⟩, hs⟩
 obtain ⟨h1, h2, h3⟩ := h.toks.2 j t hj
 exact ⟨hc (by omega) h1, hc (by omega) h2, hc (by omega) h3⟩
theorem P12.roomC_yes {most n : Nat} {could : P12.R → Bool} {r : P12.R} (h : could r = true) : P12.roomS (n + 1) most (.ok r) = roomC most n could (.ok r) := by
 unfold P12.roomS roomC
 dsimp only
 rw [h, Bool.and_true]
 simp only [decide_eq_true_eq]
theorem P12.roomC_no {most n : Nat} {could : P12.R → Bool} {r : P12.R} (h : could r = false) : (.ok r : PS) = roomC most n could (.ok r) := by
 unfold roomC
 dsimp only
 rw [h, Bool.and_false, if_neg (by simp)]
theorem names_k (br : Nat) (s : PS) (w : World) (hr : Ps br s w) : Calls Tryz.prog 147 #[rp br] w (Cm br w s (fun v x w' => SlcAt (fun b => w.heap.size ≤ b) w' 1 strR x v) (inRow namesF)) := by
 have HR := Lib.hid hr
 have lr := hr.lt
 obtain ⟨i0, hi, hz0, hz1, hz2⟩ := infoParts Tryz.infoStr
 have Hi := Lib.hid hi
 have Hz0 := Lib.hid hz0
 have Hz1 := Lib.hid hz1
 have Hz2 := Lib.hid hz2
 clear hi hz0 hz1 hz2
 have hl0 := psLen_le hr
 clear hr
 go_enter Tryz.func147, Tryz.ntmps147
 go_wp2
 go_loopw [3] (fun v wr => ∃ (xs : List P12.T) (s' : PS), Ps br s' wr ∧ Rw namesF 16 P12.named P12.name s s' xs ∧ Turn br w wr ∧ Gath w.heap.size 9 1 (fun _ _ => strR) xs v wr ∧ (xs = [] → v = nilS) ∧ xs.length + psLen br wr ≤ 8193) (fun _ wr => psLen br wr)
 case atStart => exact ⟨[], s, HR.out, Rw.start _ _ _ _, Turn.refl _ _, Gath.nil, fun _ => rfl, by simpa using hl0⟩
 case round =>
  obtain ⟨xs, s', hps, hrw, ht, hg, hnil, hxl⟩ := hrel
  have HPS := Lib.hid hps
  have HRW := Lib.hid hrw
  have HT := Lib.hid ht
  have HG := Lib.hid hg
  have HNL := Lib.hid hnil
  have hsz := ht.size
  clear hps hrw ht hg hnil HR hl0
  go_wp2_with fail
  refine (ok_any br s' _ HPS.out).mono ?_
  rintro e w2 ⟨rfl, rfl⟩
  cases s' with
  | error e =>
   have hN := Rw.err HRW.out
   have hS := HRW.out.1
   have HL := Lib.hid (HG.out.slc0 stab_str (by decide) HNL.out)
   have HN := Lib.hid hN
   have HS := Lib.hid hS
   clear hN hS
   go_wp2_with fail
   refine (mustSign_k br (.error e) [41] (by decide) _ (HPS.out)).mono ?_
   rintro e w9 ⟨rfl, ht9, hp9⟩
   go_wp2_with fail
   go_ret
   exact ⟨_, _, _, rfl, HL.out.keep (fun b hb hl => ht9.block hl (by omega)) (fun b hb _ => hb) (fun _ _ h => h), Turn.trans (HT.out) ht9, hp9, P12.nx_inRow HN.out, HS.out.trans (P12.sk_must _ _)⟩
  | ok r =>
   obtain ⟨q, cq, rfl⟩ := HG.out.form
   have hpl := HPS.out.gd.good.pos
   have HI := Lib.hid fun W (hx : Xk.Ext wr W) => isName_k br (.ok r) W (HPS.out.ext hx)
   have HGD := Lib.hid HPS.out.gd
   obtain ⟨b, cap, L, i, d, a, e, h, hs⟩ := HPS.out
   obtain ⟨l0, c0, c1, c2, c3, c4⟩ := h.cells
   obtain ⟨t, ht, lb, t0, t1, t2⟩ := h.tok
   have hi := h.hi
   have hlen := h.len
   have hib : (i : Int) < (L.length : Int) := by omega
   have hnt := hs.tok ht
   have HLN := Lib.hid HPS.out.len
   clear h hs ht
   have hI : ∀ b, isNameS (.ok r) = b → ∀ W, Xk.Ext wr W → Calls Tryz.prog 148 #[rp br] W fun e w' => e = .returned (.bool b) ∧ Xk.Ext W w' := fun b e W hx => e ▸ HI.out W hx
   have h3 : (t.kind = 1 ∧ t.text.length ≤ 24) ∨ (t.kind = 1 ∧ ¬ t.text.length ≤ 24) ∨ t.kind ≠ 1 := by omega
   rcases h3 with ⟨hk, hl⟩ | ⟨hk, hl⟩ | hk
   case' _ =>
    have hI := hI true (by simp [isNameS, hnt, hk])
    have hlb : (t.text.length : Int) ≤ 24 := by omega
    have hnm : P12.named r = true := by simp [P12.named, hnt, hk, hl]
    go_wp2_with fail
    refine Xk.reg 17 (Xk.w1 hI fun p => ?_)
    go_wp2_with fail
    refine (room_k br (.ok r) (xs.length + 1) 16 _ (HPS.out.ext Xk.xt)).mono ?_
    rintro e w3 ⟨rfl, ht3, hp3⟩
    rw [P12.roomC_yes hnm] at hp3
    have hT3 := Turn.trans (tu trivial : Turn br wr _) ht3
    clear ht3
    go_wp2_with fail
   rotate_left 1
   case' _ =>
    have hI := hI true (by simp [isNameS, hnt, hk])
    have hlb : ¬ (t.text.length : Int) ≤ 24 := by omega
    have hnm : P12.named r = false := by simp [P12.named, hnt, hk, hl]
   rotate_left 1
   case' _ =>
    have hI := hI false (by simp [isNameS, hnt, hk])
    have hnm : P12.named r = false := by simp [P12.named, hnt, hk]
   rotate_right 1
   iterate 2
    case' _ =>
     go_wp2_with fail
     refine Xk.reg 17 (Xk.w1 hI fun p => ?_)
     go_wp2_with fail
     have hp3 := HPS.out.ext (show Xk.Ext wr (Xk.exw wr p) from Xk.xt)
     rw [P12.roomC_no (most := 16) (n := xs.length) hnm] at hp3
     have hT3 : Turn br wr (Xk.exw wr p) := tu trivial
     generalize Xk.exw wr p = w3 at hp3 hT3 ⊢
    rotate_left 1
   all_goals
    refine (name_k br _ _ hp3).mono ?_
    rintro e w4 ⟨rfl, ht4, hp4⟩
    have hst := Rw.step HRW.out HGD.out (P12.nx_name _) (P12.sk_name _)
    generalize nameS (roomC 16 xs.length P12.named (.ok r)) = q4 at hp4 hst ⊢
    obtain ⟨x, s4⟩ := q4
    dsimp only at hp4 hst ⊢
    clear HI hI hnt hk hnm c0 c1 c2 c3 c4 t0 t1 t2
    have hlt3 := HG.out.lt
    have hs3 := hT3.size
    have hT4 := Turn.trans hT3 ht4
    have hG4 := HG.out.turn stab_str hT4 (by omega)
    have hT04 := Turn.trans HT.out hT4
    have hs4 := hT04.size
    obtain ⟨us, ho, hus, huz, hur⟩ := hG4
    have hlt := ho.lt
    have HU := Lib.hid (show (fun _ _ => strR) (fun b => w.heap.size ≤ b ∧ ¬ (Value.slice q xs.length cq).ownBlock = some b) w4 x [bs x] from rfl)
    have HP4 := Lib.hid hp4
    have HST := Lib.hid hst
    clear HG HT HRW HPS hst hp4 ht4 hT4 hT3 hp3
    go_wp2_with (at_builtin; refine Xo.wpList_appb w.heap.size rfl _ _ 35 rfl 9 i0 _ 1 16 Tryz.underlying35 Hi.out Hz0.out Hz1.out Hz2.out rfl (by decide) (.slice q xs.length cq) xs.length us.flatten rfl (own_turn ho (Turn.alloc (Turn.refl br w4) _) (by omega)) w4.heap.size 0 1 1 [bs x] rfl (by decide) rfl (cells_list w4 _ _ rfl) (one_all (by kernel_rfl)) (by omega) (by rw [World.size_alloc]; omega) ?_; intro v' w5 ho' hg' hk')
    have hT5 : Turn br w w5 := Kept.turn (Kept.grown (B := w.heap.size) (ks := [br]) (Kept.of_turn (Turn.alloc hT04 _) (by simp)) hg' (fun b hb => (hlt b hb).1))
    have hG5 := Gath.push (R := (fun _ _ => strR)) (e := 9) stab_str hus huz hur (grown_al hg') ho' (fun b hb => (hk' b hb).imp id (fun h => by rw [World.size_alloc] at h; omega)) rfl HU.out
    have hp5 := (HP4.out.ext (xal w4 _)).grown hg' (fun b hb => by have := (hlt b hb).1; omega)
    have hs5 := hT5.size
    clear hg' ho' hk' HP4 HU ho hur
    refine (maySign_k br _ [44] (by decide) _ hp5).mono ?_
    rintro e w6 ⟨rfl, ht6, hp6⟩
    have hT6 := Turn.trans hT5 ht6
    have hG6 := hG5.turn stab_str ht6 (by omega)
    cases hcm : (hasS [44] s4).1
    case true =>
     obtain ⟨hRW, hlt6⟩ := HST.out.2 hcm
     have hpl6 : psLen br w6 < psLen br wr := by
      rw [HLN.out]
      generalize hasS [44] s4 = q6 at hp6 hlt6
      obtain ⟨b6, s6⟩ := q6
      cases s6 with
      | error e => rw [hp6.len0]; omega
      | ok r6 => rw [hp6.len]; exact hlt6 r6 rfl
     go_wp2
     go_roundw
     case rel => exact ⟨xs ++ [x], _, hp6, hRW, hT6, hG6, fun h => by simp at h, by rw [List.length_append, List.length_singleton]; omega⟩
     case measure => exact hpl6
    have hs2 := (P12.hasS_no hcm).1
    rw [hs2] at hp6
    obtain ⟨hN, hS⟩ := HST.out.1 hcm
    have hL := hG6.slc0 stab_str (by decide) (fun h => by simp at h)
    clear hs2 hcm HST hG5 hG6
    have HL := Lib.hid hL
    have HN := Lib.hid hN
    have HS := Lib.hid hS
    clear hN hS
    go_wp2_with fail
    refine (mustSign_k br s4 [41] (by decide) _ (hp6)).mono ?_
    rintro e w9 ⟨rfl, ht9, hp9⟩
    go_wp2_with fail
    go_ret
    exact ⟨_, _, _, rfl, HL.out.keep (fun b hb hl => ht9.block hl (by omega)) (fun b hb _ => hb) (fun _ _ h => h), Turn.trans (hT6) ht9, hp9, P12.nx_inRow HN.out, HS.out.trans (P12.sk_must _ _)⟩
open _root_.P12 (PS Gd okB failS isK nextS Nx hasS mustS nameS isNameS roomS openS closeS elementS Sk inS Rw roomC inRow)
open _root_.P12 (PS Gd okB failS isK nextS Nx hasS mustS nameS isNameS roomS openS closeS elementS Sk inS Rw roomC inRow)
theorem wpList_builtF {P : Program} {ops : Array Oper} {rest : List Oper} {o : Oper} {a : Act} {w : World} {Q : Exit → Act → World → Prop} (hgd : o.guard = none) (t : TypeId) (fs : List (Nat × Operand)) (ho : o.op = .build t fs.toArray)
  (vs : List (Nat × Value)) (he : fs.map (fun f => (f.1, a.eval f.2)) = vs) (v : Value) (hb : (Instr.build t vs.toArray).run P w = .ok v w)
  (h : wpList P ops Q rest (a.put o.dst v) w) : wpList P ops Q (o :: rest) a w :=
 wpList_plain hgd fun _ hK => by
  subst he
  unfold Oper.wp execOp
  simp only [ho, List.map_toArray, Sem.run_bind, Sem.run_pure, hb, Result.andThen_ok]
  exact hK _ _ h
structure Dz (br gz gx : Nat) (w0 : World) (s0 : PS) (K : (Nat → Prop) → World → Prop) (s : PS) (c : Array Value) (w : World) : Prop where
 zero : w.heap[gz]? = some (.cells zero37.toArray 46)
 blk : w.heap[gx]? = some (.cells c 46)
 turn : Turn br w0 w
 ps : Ps br s w
 sk : Sk s0 s
 stab : StabP K
 piece : K (fun b => gx < b) w
 lo : br < w0.heap.size
 gzge : w0.heap.size ≤ gz
 zx : gz < gx
section
variable {br gz gx : Nat} {w0 : World} {s0 : PS} {K : (Nat → Prop) → World → Prop} {s s' : PS} {c c' : Array Value} {w w' : World}
theorem Dz.size (F : Dz br gz gx w0 s0 K s c w) : gx < w.heap.size := (Array.getElem?_eq_some_iff.1 F.blk).1
theorem Dz.step (F : Dz br gz gx w0 s0 K s c w) (ht : Turn br w w') (hp : Ps br s' w') (hk : Sk s s') : Dz br gz gx w0 s0 K s' c w' := by
 obtain ⟨h2, h3, h4, h5, h6, h7, h8, h9, h11, h13⟩ := F
 exact ⟨ht.held h2 (by omega), ht.held h3 (by omega), Turn.trans h4 ht, hp, h6.trans hk, h7, h7 _ _ _ _ h8 (fun b hb hl => ht.block hl (by omega)) (fun b hb _ => hb), h9, h11, h13⟩
theorem Dz.puts (F : Dz br gz gx w0 s0 K s c w) (hp : Puts gx c' 46 w w') : Dz br gz gx w0 s0 K s c' w' := by
 obtain ⟨h2, h3, h4, h5, h6, h7, h8, h9, h11, h13⟩ := F
 exact ⟨(hp.rest _ (by omega)).trans h2, hp.blk, Puts.turn hp h4 (by omega), Puts.ps hp h5 (by omega), h6, h7, h7 _ _ _ _ h8 (fun b hb hl => hp.rest b (by omega)) (fun b hb _ => hb), h9, h11, h13⟩
theorem Dz.set (F : Dz br gz gx w0 s0 K s c w) (o : Nat) (u : Value) : Dz br gz gx w0 s0 K s (c.setIfInBounds o u) (w.setCell ⟨gx, o, none⟩ u) :=
 F.puts (puts_set F.blk [u] o)
theorem Dz.add (F : Dz br gz gx w0 s0 K s c w) {A : (Nat → Prop) → World → Prop} (hs : StabP A) (ha : A (fun b => gx < b) w) : Dz br gz gx w0 s0 (fun S w => K S w ∧ A S w) s c w := by
 obtain ⟨h2, h3, h4, h5, h6, h7, h8, h9, h11, h13⟩ := F
 exact ⟨h2, h3, h4, h5, h6, fun S S' w w' h hb hS => ⟨h7 _ _ _ _ h.1 hb hS, hs _ _ _ _ h.2 hb hS⟩, ⟨h8, ha⟩, h9, h11, h13⟩
theorem Dz.cells (F : Dz br gz gx w0 s0 K s c w) (h : c = c') : Dz br gz gx w0 s0 K s c' w := h ▸ F
theorem Dz.cell (F : Dz br gz gx w0 s0 K s c w) {o : Nat} {v : Value} (h : c[o]? = some v) : w.cell? ⟨gx, o, none⟩ = some v := by simp [World.cell?, F.blk, h]
theorem Dz.free (F : Dz br gz gx w0 s0 K s c w) (o : Nat) : w.frozen? ⟨gx, o, none⟩ = false := frozen_of_row w gx o _ _ F.blk
theorem Dz.up (F : Dz br gz gx w0 s0 K s c w) {A : (Nat → Prop) → World → Prop} (hs : StabP A) (ha : A (fun b => w.heap.size ≤ b) w') : A (fun b => gx < b) w' :=
 hs _ _ _ _ ha (fun _ _ _ => rfl) (fun b hb _ => by have := F.size; omega)
theorem Dz.row (F : Dz br gz gx w0 s0 K s c w) (hk : Kept w.heap.size [br, gx] w w') (hb : w'.heap[gx]? = some (.cells c' 46)) (hr : Ps br s' w') (hkp : Sk s s') : Dz br gz gx w0 s0 K s' c' w' := by
 have hsz := F.size
 obtain ⟨h2, h3, h4, h5, h6, h7, h8, h9, h11, h13⟩ := F
 exact ⟨hk.held h2 (by omega) (by simp; omega), hb, hk.at_end h4 (by omega), hr, h6.trans hkp, h7, h7 _ _ _ _ h8 (fun b hb hl => hk.block b hl hl (by simp; omega)) (fun b hb _ => hb), h9, h11, h13⟩
theorem Dz.start {br : Nat} {s s1 : PS} {w w1 w2 : World} {c : Array Value} {o : Obj} (hlt : br < w.heap.size) (ht : Turn br (w.alloc (.cells zero37.toArray 46)) w1) (hr : Ps br s1 w1) (hk : Sk s s1) (hp : Puts w1.heap.size c 46 (w1.alloc o) w2) :
  Dz br w.heap.size w1.heap.size w s (fun _ _ => True) s1 c w2 := by
 have hl := ht.size
 simp only [World.size_alloc] at hl
 have hz := heap_new w (.cells zero37.toArray 46)
 have h2 := ((Turn.alloc (Turn.refl br w1) o).held (ht.held hz (by omega)) (by omega))
 exact ⟨(hp.rest _ (by omega)).trans h2, hp.blk, Puts.turn hp (Turn.alloc (Turn.trans (Turn.alloc (Turn.refl br w) _) ht) _) (by omega), Puts.ps hp (hr.ext (xal _ _)) (by omega), hk, fun _ _ _ _ _ _ _ => trivial, trivial, hlt, Nat.le_refl _, by omega⟩
theorem Dz.finish {l : List Value} {x : P12.St} {f : P12.R → Except P12.Er (P12.St × P12.R)} (F : Dz br gz gx w0 s0 K s c w) (hp : Puts gz l.toArray 46 w w') (hst : K (fun b => w0.heap.size ≤ b) w' → StmtIn (fun b => w0.heap.size ≤ b) w' x l) (hN : Nx f s0 x s) :
  Cm br w0 s0 (StmtV w0) f (.returned (.agg l.toArray)) w' := by
 obtain ⟨h2, h3, h4, h5, h6, h7, h8, h9, h11, h13⟩ := F
 exact ⟨_, x, s, rfl, ⟨l, rfl, hst (h7 _ _ _ _ h8 (fun b hb hl => hp.rest b (by omega)) (fun b hb _ => by omega))⟩, Puts.turn hp h4 h11, Puts.ps hp h5 (by omega), hN, h6⟩
end
end Go.Proofs.YtlpcdpkgnfdpeaaGreatDoor
namespace P12
theorem sk_room2 (n most : Nat) (s : PS) : Sk s (roomS n most s) := by
 unfold roomS
 split
 ·exact sk_fail _ _
 ·exact Sk.refl _
theorem isT_two {a b : T} {r : R} (h : isT a r = true) (hab : a ≠ b) : isT b r = false := by
 have ht := isT_text h
 unfold isT
 rw [ht]
 simp [hab]
def conS (n : Nat) (r : R) : PS := nextS (roomS (n + 1) 16 (.ok r))
theorem conS_err {n : Nat} {r : R} (h : 16 < n + 1) : conS n r = .error ((nxt r).pos, 122) := by
 unfold conS roomS
 rw [if_pos h]
 rfl
theorem conS_ok {n : Nat} {r : R} (h : ¬ 16 < n + 1) : conS n r = .ok (takes r) := by
 unfold conS roomS
 rw [if_neg h]
 rfl
theorem sk_con (n : Nat) (r : R) : Sk (.ok r) (conS n r) := (sk_room2 _ _ _).trans (sk_next _)
theorem nx_con_prim {n : Nat} {c : T} {r : R} (h : isT [80, 82, 73, 77, 65, 82, 89] r = true) {l : List T} {s2 : PS} (h2 : Nx (colsOf c) (mustS [75, 69, 89] (conS n r)) l s2) : Nx (conOf n c) (.ok r) (.inr (true, l)) s2 := by
 have hc : constrains r = true := by simp [constrains, h]
 have hk := isT_two (b := [67, 72, 69, 67, 75]) h (by decide)
 unfold Nx
 dsimp only
 rw [conOf_eq, hc, Bool.and_true]
 by_cases hn : 16 < n + 1
 ·rw [if_pos (by simpa using hn)]
  rw [conS_err hn] at h2
  exact h2
 ·rw [if_neg (by simpa using hn)]
  rw [conS_ok hn] at h2
  dsimp only
  rw [if_neg (by rw [hk]; simp), if_pos h]
  exact nx_must (s := .ok (takes r)) (G := fun r => colsOf c r >>= fun z => .ok ((.inr (true, z.1) : Con), z.2)) (nx_bind h2 (nx_ok (.inr (true, l) : Con) s2))
theorem nx_con_uniq {n : Nat} {c : T} {r : R} (h : isT [85, 78, 73, 81, 85, 69] r = true) {l : List T} {s2 : PS} (h2 : Nx (colsOf c) (conS n r) l s2) : Nx (conOf n c) (.ok r) (.inr (false, l)) s2 := by
 have hc : constrains r = true := by simp [constrains, h]
 have hk := isT_two (b := [67, 72, 69, 67, 75]) h (by decide)
 have hp := isT_two (b := [80, 82, 73, 77, 65, 82, 89]) h (by decide)
 unfold Nx
 dsimp only
 rw [conOf_eq, hc, Bool.and_true]
 by_cases hn : 16 < n + 1
 ·rw [if_pos (by simpa using hn)]
  rw [conS_err hn] at h2
  exact h2
 ·rw [if_neg (by simpa using hn)]
  rw [conS_ok hn] at h2
  dsimp only
  rw [if_neg (by rw [hk]; simp), if_neg (by rw [hp]; simp)]
  refine nx_must (s := .ok r) (t := [85, 78, 73, 81, 85, 69]) (G := fun r => colsOf c r >>= fun z => .ok ((.inr (false, z.1) : Con), z.2)) ?_
  rw [show mustS [85, 78, 73, 81, 85, 69] (.ok r) = .ok (takes r) by simp [mustS, must, h]]
  exact nx_bind h2 (nx_ok (.inr (false, l) : Con) s2)
theorem nx_con_check {n : Nat} {c : T} {r : R} (h : isT [67, 72, 69, 67, 75] r = true) {e : E} {s2 : PS} (h2 : Nx (within expr) (conS n r) e s2) : Nx (conOf n c) (.ok r) (.inl e) s2 := by
 have hc : constrains r = true := by simp [constrains, h]
 unfold Nx
 dsimp only
 rw [conOf_eq, hc, Bool.and_true]
 by_cases hn : 16 < n + 1
 ·rw [if_pos (by simpa using hn)]
  rw [conS_err hn] at h2
  exact h2
 ·rw [if_neg (by simpa using hn)]
  rw [conS_ok hn] at h2
  dsimp only
  rw [if_pos h]
  exact nx_bind (s := .ok (takes r)) (F := within expr) (G := fun z => .ok ((.inl z.1 : Con), z.2)) h2 (nx_ok (.inl e : Con) s2)
theorem nx_one {c : T} (hc : c ≠ []) (s : PS) : Nx (colsOf c) s [c] s := by
 have e : colsOf c = fun r => .ok ([c], r) := by funext r; unfold colsOf; rw [if_neg hc]
 rw [e]
 exact nx_ok [c] s
theorem nx_names {s : PS} {l : List T} {s' : PS} (h : Nx (inRow (fun r => rowF 16 named name r.l.length 0 r)) (mustS [40] s) l s') : Nx names s l s' := by
 have e : names = fun r => must [40] r >>= inRow (fun r => rowF 16 named name r.l.length 0 r) := by
  funext r
  rw [names_eq]
  dsimp only
  cases must [40] r with
  | error e => rfl
  | ok r1 =>
   show ((fun r => rowF 16 named name r.l.length 0 r) r1 >>= fun z => must [41] z.2 >>= fun r => .ok (z.1, r)) = inRow (fun r => rowF 16 named name r.l.length 0 r) r1
   unfold inRow
   dsimp only
   cases rowF 16 named name r1.l.length 0 r1 with
   | error e => rfl
   | ok p =>
    dsimp only [bind, Except.bind]
    cases must [41] p.2 <;> rfl
 rw [e]
 exact nx_must h
theorem nx_cols {s : PS} {l : List T} {s' : PS} (h : Nx names s l s') : Nx (colsOf []) s l s' := by
 have e : colsOf [] = names := by funext r; unfold colsOf; rw [if_pos rfl]
 rw [e]
 exact h
def Tl (c : T) (F : R → Except Er ((Tb × List (List T) × Nat × Bool) × R)) (s s' : PS) (t : Tb) (k : List (List T)) (n : Nat) (nn : Bool) : Prop :=
 Sk s s' ∧ ∃ f, (∀ r, s' = .ok r → r.l.length ≤ f) ∧ ∀ X S', Nx (tailF c f t k n nn) s' X S' → Nx F s X S'
section
variable {c : T} {F : R → Except Er ((Tb × List (List T) × Nat × Bool) × R)} {s : PS} {r : R} {t : Tb} {k : List (List T)} {n : Nat} {nn : Bool}
theorem Tl.start (c : T) (t : Tb) (k : List (List T)) (n : Nat) (s : PS) : Tl c (fun r => tailF c r.l.length t k n false r) s s t k n false := by
 refine ⟨Sk.refl s, ?_⟩
 cases s with
 | error e => exact ⟨0, fun r e => (by cases e), fun X S' h => h⟩
 | ok r => exact ⟨r.l.length, fun r' e => (by cases e; exact Nat.le_refl _), fun X S' h => h⟩
theorem Tl.err {e : Er} (h : Tl c F s (.error e) t k n nn) (X : Tb × List (List T) × Nat × Bool) : Nx F s X (.error e) := by
 obtain ⟨-, f, -, h⟩ := h
 exact h X _ rfl
theorem Tl.out (h : Tl c F s (.ok r) t k n nn) (hg : Gd r) (h1 : isT [78, 79, 84] r = false) (h2 : constrains r = false) : Nx F s (t, k, n, nn) (.ok r) := by
 obtain ⟨-, f, hf, h⟩ := h
 have h3 := hg.good.pos
 have h4 := hf r rfl
 obtain ⟨f, rfl⟩ : ∃ g, f = g + 1 := ⟨f - 1, by omega⟩
 refine h _ _ ?_
 unfold Nx
 dsimp only
 rw [tail_no h1 h2]
 exact ⟨rfl, rfl⟩
theorem Tl.not (h : Tl c F s (.ok r) t k n nn) (hg : Gd r) (h1 : isT [78, 79, 84] r = true) : Tl c F s (mustS [78, 85, 76, 76] (.ok (takes r))) t k n true ∧ ∀ r3, mustS [78, 85, 76, 76] (.ok (takes r)) = .ok r3 → r3.l.length < r.l.length := by
 obtain ⟨h0, f, hf, h⟩ := h
 have h3 := takes_lt hg.good (isT_kind h1)
 have h4 := hf r rfl
 obtain ⟨f, rfl⟩ : ∃ g, f = g + 1 := ⟨f - 1, by omega⟩
 have hlt : ∀ r3, mustS [78, 85, 76, 76] (.ok (takes r)) = .ok r3 → r3.l.length < r.l.length := fun r3 e => by
  have := (sk_must [78, 85, 76, 76] (.ok (takes r)) r3 e).suf.length_le
  omega
 refine ⟨⟨h0.trans (Sk.trans (b := .ok (takes r)) (sk_next (.ok r)) (sk_must _ _)), f, fun r3 e => (by have := hlt r3 e; omega), fun X S' hX => h _ _ ?_⟩, hlt⟩
 unfold Nx at hX ⊢
 dsimp only at hX ⊢
 rw [tail_not h1]
 unfold mustS at hX
 dsimp only at hX
 cases hm : must [78, 85, 76, 76] (takes r) with
 | error e => rw [hm] at hX; exact hX
 | ok r1 => rw [hm] at hX; exact hX
theorem con_lt {s2 : PS} (hg : Gd r) (h2 : constrains r = true) (hs : Sk (conS n r) s2) : ∀ r3, s2 = .ok r3 → r3.l.length < r.l.length := fun r3 e => by
 subst e
 have h3 := takes_lt hg.good (constrains_kind h2)
 by_cases hn : 16 < n + 1
 ·rw [conS_err hn] at hs
  cases hs
 ·rw [conS_ok hn] at hs
  have := (hs r3 rfl).suf.length_le
  omega
theorem Tl.con (h : Tl c F s (.ok r) t k n nn) (hg : Gd r) (h1 : isT [78, 79, 84] r = false) (h2 : constrains r = true) {o : Con} {s2 : PS} (hc : Nx (conOf n c) (.ok r) o s2) (hs : Sk (conS n r) s2) :
  Tl c F s s2 (addT t o) (addK k o) (n + 1) (nn || isT [80, 82, 73, 77, 65, 82, 89] r) ∧ ∀ r3, s2 = .ok r3 → r3.l.length < r.l.length := by
 have hlt := con_lt hg h2 hs
 obtain ⟨h0, f, hf, h⟩ := h
 have h3 := hg.good.pos
 have h4 := hf r rfl
 obtain ⟨f, rfl⟩ : ∃ g, f = g + 1 := ⟨f - 1, by omega⟩
 refine ⟨⟨h0.trans ((sk_con n r).trans hs), f, fun r3 e => (by have := hlt r3 e; omega), fun X S' hX => h _ _ ?_⟩, hlt⟩
 unfold Nx at hc ⊢
 dsimp only at hc ⊢
 rw [tail_con h1 h2]
 cases hm : conOf n c r with
 | error e =>
  rw [hm] at hc
  have hc : s2 = .error e := hc
  subst hc
  exact hX
 | ok p =>
  obtain ⟨o', r2⟩ := p
  rw [hm] at hc
  obtain ⟨rfl, rfl⟩ := hc
  exact hX
end
def partC (t : Tb) (k : List (List T)) (n : Nat) : R → Except Er ((Tb × List (List T) × Nat) × R) := fun r => name r >>= fun z => typeOf z.2 >>= fun y => (fun r => tailF z.1 r.l.length t k (n + 1) false r) y.2 >>= fun w => .ok (({ w.1.1 with cols := w.1.1.cols ++ [(z.1, y.1, w.1.2.2.2)] }, w.1.2.1, w.1.2.2.1), w.2)
theorem nx_partC {t t' : Tb} {k k' : List (List T)} {n n' : Nat} {nn : Bool} {c : T} {ty : Int} {s s1 s2 s3 : PS} (h1 : Nx name s c s1) (h2 : Nx typeOf s1 ty s2) (h3 : Nx (fun r => tailF c r.l.length t k (n + 1) false r) s2 (t', k', n', nn) s3) :
  Nx (partC t k n) s ({ t' with cols := t'.cols ++ [(c, ty, nn)] }, k', n') s3 := by
 unfold partC
 refine nx_bind h1 ?_
 dsimp only
 refine nx_bind h2 ?_
 dsimp only
 exact nx_bind h3 (nx_ok (({ t' with cols := t'.cols ++ [(c, ty, nn)] }, k', n') : Tb × List (List T) × Nat) s3)
theorem nx_ty_int {s : PS} (h : (hasS [73, 78, 84] s).1 = true) : Nx typeOf s 2 (hasS [73, 78, 84] s).2 := by
 obtain ⟨r, rfl, h1, h2⟩ := hasS_yes h
 rw [h2]
 unfold Nx
 dsimp only
 unfold typeOf
 rw [if_neg (by rw [isT_two h1 (by decide)]; simp), if_pos h1]
 exact ⟨rfl, rfl⟩
theorem nx_ty_bool {s : PS} (h : (hasS [66, 79, 79, 76] s).1 = true) : Nx typeOf s 1 (hasS [66, 79, 79, 76] s).2 := by
 obtain ⟨r, rfl, h1, h2⟩ := hasS_yes h
 rw [h2]
 unfold Nx
 dsimp only
 unfold typeOf
 rw [if_pos h1]
 exact ⟨rfl, rfl⟩
theorem nx_ty_text {s : PS} (h : (hasS [84, 69, 88, 84] s).1 = true) : Nx typeOf s 3 (hasS [84, 69, 88, 84] s).2 := by
 obtain ⟨r, rfl, h1, h2⟩ := hasS_yes h
 rw [h2]
 unfold Nx
 dsimp only
 unfold typeOf
 rw [if_neg (by rw [isT_two h1 (by decide)]; simp), if_neg (by rw [isT_two h1 (by decide)]; simp), if_pos h1]
 exact ⟨rfl, rfl⟩
theorem nx_ty_no {s : PS} (h1 : (hasS [73, 78, 84] s).1 = false) (h2 : (hasS [66, 79, 79, 76] s).1 = false) (h3 : (hasS [84, 69, 88, 84] s).1 = false) : Nx typeOf s 0 (failS 120 s) := by
 cases s with
 | error e => rfl
 | ok r =>
  have e1 := (hasS_no h1).2 r rfl
  have e2 := (hasS_no h2).2 r rfl
  have e3 := (hasS_no h3).2 r rfl
  unfold Nx
  dsimp only
  unfold typeOf
  rw [if_neg (by rw [e2]; simp), if_neg (by rw [e1]; simp), if_neg (by rw [e3]; simp)]
  rfl
theorem nx_part_col {t : Tb} {k : List (List T)} {n : Nat} {r : R} (hc : constrains r = false) {X : Tb × List (List T) × Nat} {s2 : PS} (h : Nx (partC t k n) (roomC 16 n named (.ok r)) X s2) : Nx (part t k n) (.ok r) X s2 := by
 unfold roomC at h
 dsimp only at h
 unfold Nx
 dsimp only
 rw [part_eq]
 dsimp only
 rw [if_neg (by rw [hc]; simp)]
 by_cases hn : (decide (16 < n + 1) && named r) = true
 ·rw [if_pos hn] at h ⊢
  exact h
 ·rw [if_neg hn] at h ⊢
  exact h
theorem nx_part_con {t : Tb} {k : List (List T)} {n : Nat} {r : R} (hc : constrains r = true) {o : Con} {s2 : PS} (h : Nx (conOf n []) (.ok r) o s2) : Nx (part t k n) (.ok r) (addT t o, addK k o, n + 1) s2 := by
 have e : ∀ r', (.ok r : PS) = .ok r' → (conOf n [] r' >>= fun z => .ok ((addT t z.1, addK k z.1, n + 1), z.2)) = part t k n r' := fun r' e => by
  cases e
  rw [part_eq]
  dsimp only
  rw [if_pos hc]
 exact nx_gd (nx_bind h (nx_ok (addT t o, addK k o, n + 1) s2)) e
def Pw (F : R → Except Er ((Tb × List (List T)) × R)) (s s' : PS) (t : Tb) (k : List (List T)) (n : Nat) : Prop :=
 Sk s s' ∧ ∃ f, (∀ r, s' = .ok r → r.l.length ≤ f) ∧ ∀ X S', Nx (partsF f t k n) s' X S' → Nx F s X S'
theorem Pw.start (t : Tb) (k : List (List T)) (n : Nat) (s : PS) : Pw (fun r => partsF r.l.length t k n r) s s t k n := by
 refine ⟨Sk.refl s, ?_⟩
 cases s with
 | error e => exact ⟨0, fun r e => (by cases e), fun X S' h => h⟩
 | ok r => exact ⟨r.l.length, fun r' e => (by cases e; exact Nat.le_refl _), fun X S' h => h⟩
theorem Pw.err {F : R → Except Er ((Tb × List (List T)) × R)} {s : PS} {t : Tb} {k : List (List T)} {n : Nat} {e : Er} (h : Pw F s (.error e) t k n) (X : Tb × List (List T)) : Nx F s X (.error e) := by
 obtain ⟨-, f, -, h⟩ := h
 exact h X _ rfl
theorem Pw.step {F : R → Except Er ((Tb × List (List T)) × R)} {s : PS} {r : R} {t : Tb} {k : List (List T)} {n : Nat} (h : Pw F s (.ok r) t k n) (hg : Gd r) {t' : Tb} {k' : List (List T)} {n' : Nat} {s2 : PS} (h2 : Nx (part t k n) (.ok r) (t', k', n') s2) (hs : Sk (.ok r) s2) :
  ((hasS [44] s2).1 = false → Nx F s (t', k') s2 ∧ Sk s s2) ∧ ((hasS [44] s2).1 = true → Pw F s (hasS [44] s2).2 t' k' n' ∧ ∀ r3, (hasS [44] s2).2 = .ok r3 → r3.l.length < r.l.length) := by
 obtain ⟨h0, f, hf, h⟩ := h
 have hp := hg.good.pos
 obtain ⟨f, rfl⟩ : ∃ g, f = g + 1 := ⟨f - 1, by have := hf r rfl; omega⟩
 have hst : ∀ {X S'}, Nx (fun r2 => if isT [44] r2 = true then partsF f t' k' n' (takes r2) else .ok ((t', k'), r2)) s2 X S' → Nx (partsF (f + 1) t k n) (.ok r) X S' := fun {X S'} h3 => by
  rw [partsF_succ]
  exact nx_bind h2 h3
 have hlt : (hasS [44] s2).1 = true → ∀ r3, (hasS [44] s2).2 = .ok r3 → r3.l.length < r.l.length := fun hb r3 e => by
  obtain ⟨r2, rfl, ht, hs2⟩ := hasS_yes hb
  rw [hs2] at e
  cases e
  have hk := hs r2 rfl
  have h3 : r2.l ≠ [] := fun e => by
   unfold isT nxt at ht
   rw [e] at ht
   simp at ht
  have h4 := takes_tail (isT_kind ht)
  have h5 := hk.suf.length_le
  have h6 := List.length_pos_iff.2 h3
  rw [h4]
  simp only [List.length_tail]
  omega
 refine ⟨fun hb => ⟨h _ _ (hst (nx_no hb (nx_ok (t', k') s2))), h0.trans hs⟩, fun hb => ⟨⟨h0.trans (hs.trans (sk_has _ _)), f, fun r3 e => (by have := hlt hb r3 e; have := hf r rfl; omega), fun X S' hX => h _ _ (hst (nx_yes hb hX))⟩, hlt hb⟩⟩
theorem nx_mkTab {s s1 s2 : PS} {a : T} {t : Tb} {k : List (List T)} (h1 : Nx name s a s1) (h2 : Nx (fun r => partsF r.l.length { name := a } [] 0 r) (mustS [40] s1) (t, k) s2) : Nx mkTab s { made 1 with tb := t, keyCols := k } (mustS [41] s2) := by
 unfold mkTab
 refine nx_bind h1 ?_
 dsimp only
 refine nx_must ?_
 refine nx_bind h2 ?_
 dsimp only
 exact nx_must (nx_ok ({ made 1 with tb := t, keyCols := k } : St) _)
theorem nx_mkIdx {u : Bool} {s s1 s2 s3 : PS} {a b : T} {l : List T} (h1 : Nx name (mustS [73, 78, 68, 69, 88] s) a s1) (h2 : Nx name (mustS [79, 78] s1) b s2) (h3 : Nx names s2 l s3) : Nx (mkIdx u) s { made 3 with unique := u, name := a, on := b, cols := l } s3 := by
 unfold mkIdx
 refine nx_must ?_
 refine nx_bind h1 ?_
 dsimp only
 refine nx_must ?_
 refine nx_bind h2 ?_
 dsimp only
 exact nx_bind h3 (nx_ok ({ made 3 with unique := u, name := a, on := b, cols := l } : St) s3)
theorem nx_create_tab {s s2 : PS} {x : St} (hb : (hasS [84, 65, 66, 76, 69] s).1 = true) (h : Nx mkTab (hasS [84, 65, 66, 76, 69] s).2 x s2) : Nx create s x s2 := by
 rw [create_eq]
 exact nx_yes hb h
theorem nx_create_idx {s s2 : PS} {x : St} (hb : (hasS [84, 65, 66, 76, 69] s).1 = false) (h : Nx (mkIdx (hasS [85, 78, 73, 81, 85, 69] s).1) (hasS [85, 78, 73, 81, 85, 69] s).2 x s2) : Nx create s x s2 := by
 rw [create_eq]
 refine nx_no (A := fun r => mkTab (takes r)) hb ?_
 cases s with
 | error e => exact h
 | ok r =>
  unfold hasS at h
  dsimp only at h
  unfold Nx
  dsimp only
  cases hu : isT [85, 78, 73, 81, 85, 69] r
  ·have e1 : has [85, 78, 73, 81, 85, 69] r = (false, r) := by unfold has; rw [hu]; rfl
   rw [e1] at h ⊢
   dsimp only at h ⊢
   cases hi : isT [73, 78, 68, 69, 88] r
   ·have e2 : mkIdx false r = fails 120 r := by unfold mkIdx must; rw [hi]; rfl
    unfold Nx at h
    dsimp only at h
    rw [e2] at h
    exact h
   ·exact h
  ·have e1 : has [85, 78, 73, 81, 85, 69] r = (true, takes r) := by unfold has; rw [hu]; rfl
   rw [e1] at h ⊢
   exact h
def stmtG : R → Except Er (St × R) := fun r =>
 if isT [67, 82, 69, 65, 84, 69] r = true then create (takes r)
 else if isT [68, 82, 79, 80] r = true then drop (takes r)
 else if isT [73, 78, 83, 69, 82, 84] r = true then insert (takes r)
 else if isT [85, 80, 68, 65, 84, 69] r = true then update (takes r)
 else if isT [68, 69, 76, 69, 84, 69] r = true then deletes (takes r)
 else if isT [83, 69, 76, 69, 67, 84] r = true then selects (takes r)
 else if isT [66, 69, 71, 73, 78] r = true then .ok (made 9, takes r)
 else if isT [67, 79, 77, 77, 73, 84] r = true then .ok (made 10, takes r)
 else if isT [82, 79, 76, 76, 66, 65, 67, 75] r = true then .ok (made 11, takes r)
 else fails 120 r
theorem word_two {x : T} {r : R} (h : Gd r) (hx : P11.signs.contains x = false) : (isT x r && (nxt r).kind == 2) = isT x r := by
 have h2 := isK_word h hx
 unfold isK at h2
 cases hi : isT x r
 ·rfl
 ·rw [hi] at h2
  simp only [Bool.and_eq_true] at h2
  rw [h2.1]
  rfl
theorem stmtG_eq {r : R} (h : Gd r) : stmtG r = statement r := by
 unfold stmtG statement
 rw [word_two h (by decide), word_two h (by decide), word_two h (by decide), word_two h (by decide), word_two h (by decide), word_two h (by decide)]
theorem nx_stmtG {s s2 : PS} {x : St} (hg : ∀ r, s = .ok r → Gd r) (h : Nx stmtG s x s2) : Nx statement s x s2 := nx_gd h fun r e => stmtG_eq (hg r e)
end P12
namespace Go.Proofs.YtlpcdpkgnfdpeaaGreatDoor
open Go.RowKit
open _root_.P12 (PS Gd okB failS isK nextS Nx hasS mustS nameS isNameS roomS openS closeS elementS Sk inS Rw roomC inRow)
def TabN (n0 B gx gc : Nat) (t : P12.Tb) (k : List (List P12.T)) (w : World) : Prop := ∃ col tc tk tq kc, Tab B gx t k col tc tk tq kc (tabL t.name tc tk tq kc) w ∧ (B ≤ gc → col gc = 9) ∧ ∀ b, n0 ≤ b → col b = 4
theorem TabAt.fresh {B gx gc : Nat} {t : P12.Tb} {k : List (List P12.T)} {w : World} (h : TabAt B gx gc t k w) (hg : gc < w.heap.size) : TabN w.heap.size B gx gc t k w := by
 obtain ⟨col, tc, tk, tq, kc, h, h9⟩ := h
 exact ⟨fun b => if b < w.heap.size then col b else 4, tc, tk, tq, kc, h.recF _ (fun b hb _ => by simp only [hb, if_true]), fun hb => (if_pos hg).trans (h9 hb), fun b hb => if_neg (by omega)⟩
theorem TabN.turn {n0 B gx gc br : Nat} {t : P12.Tb} {k : List (List P12.T)} {w w' : World} (h : TabN n0 B gx gc t k w) (ht : Turn br w w') (h1 : br < gx) : TabN n0 B gx gc t k w' := by
 obtain ⟨col, tc, tk, tq, kc, h, h9⟩ := h
 exact ⟨col, tc, tk, tq, kc, h.turn ht h1, h9⟩
theorem TabN.ext {n0 B gx gc : Nat} {t : P12.Tb} {k : List (List P12.T)} {w w' : World} (h : TabN n0 B gx gc t k w) (ht : Xk.Ext w w') : TabN n0 B gx gc t k w' := by
 obtain ⟨col, tc, tk, tq, kc, h, h9⟩ := h
 exact ⟨col, tc, tk, tq, kc, h.ext ht, h9⟩
theorem key_k (B gx gc n0 : Nat) (t : P12.Tb) (k : List (List P12.T)) (p : Bool) (l : List P12.T) (p1 : Option Addr) (p2 p3 : Nat) (w : World) (h : TabN n0 B gx gc t k w) (hn0 : B ≤ n0 ∧ gc < n0 ∧ n0 ≤ w.heap.size) (hs : SlcAt (fun b => n0 ≤ b) w 1 strR l (.slice p1 p2 p3)) (hl : t.keys.length ≤ 100 ∧ k.length ≤ 100) :
  Calls Tryz.prog 207 #[rp gx, .bool p, .slice p1 p2 p3] w fun e w' => e = .returned (.tuple #[]) ∧ TabAt B gx gc { t with keys := t.keys ++ [p] } (k ++ [l]) w' ∧ KeptG B gc [gx] w w' := by
 obtain ⟨col0, tc, tk, tq, kc, T0, h90, hn4⟩ := h
 obtain ⟨a1, a2, b1, b2, c1, c2, d1, d2, rfl, rfl, rfl, rfl⟩ := T0.form
 have lgx : gx < w.heap.size := by have := T0.bx; have := T0.bs; omega
 have hgB := T0.bx
 obtain ⟨col1, hcol1⟩ : ∃ col1 : Nat → Nat, ∀ b, col1 b = if b < w.heap.size then col0 b else 1 := ⟨_, fun _ => rfl⟩
 have T1 := (T0.recF col1 (fun b hb _ => by rw [hcol1, if_pos hb])).ext (show Xk.Ext w (w.alloc (.cells (keyL p).toArray 100)) from (Below.refl _ _).alloc (Nat.le_refl _) _)
 have cK : w.cell? ⟨gx, 3, none⟩ = some (.slice b1 t.keys.length b2) := by simp [World.cell?, T0.blk]
 obtain ⟨us, -, hown, -, hu2, hu3, hu4⟩ := T1.tk
 have hlt : ∀ b, (Value.slice b1 t.keys.length b2).ownBlock = some b → B ≤ b ∧ b < n0 := fun b hb => by
  obtain ⟨⟨h1, h2⟩, h3⟩ := T0.tk.lt b hb
  refine ⟨h1, ?_⟩
  rcases Nat.lt_or_ge b n0 with h | h
  ·exact h
  ·rw [hn4 b h] at h2; omega
 have hc9 : B ≤ gc → col1 gc = 9 := fun h => by rw [hcol1, if_pos (by omega)]; exact h90 h
 have HOW := Lib.hid hown
 have HU := Lib.hid hu4
 have T1H := Lib.hid T1
 have HS := Lib.hid hs
 have hbk : ∀ (W : World), (Instr.build 100 #[(2, Value.bool true), (3, Value.bool p)]).run Tryz.prog W = .ok (.agg (keyL p).toArray) W := fun W => by kernel_rfl
 have HBK := Lib.hid hbk
 clear hown hu4 T1 hs hbk T0
 obtain ⟨i0, hi, hz0, hz1, hz2⟩ := infoParts Tryz.infoKey
 have Hi := Lib.hid hi
 have Hz0 := Lib.hid hz0
 have Hz1 := Lib.hid hz1
 have Hz2 := Lib.hid hz2
 clear hi hz0 hz1 hz2
 go_enter Tryz.func207, Tryz.ntmps207
 go_upto_region 1 with (first | (refine wpList_builtF rfl 100 _ rfl _ rfl _ (HBK.out _) ?_) | (at_builtin; refine Xo.wpList_appb 0 rfl _ _ 30 rfl 100 i0 _ 4 48 Tryz.underlying30 Hi.out Hz0.out Hz1.out Hz2.out rfl (by decide) (.slice b1 t.keys.length b2) t.keys.length us.flatten rfl HOW.out w.heap.size 0 1 1 (keyL p) rfl (by decide) rfl (cells_list w _ _ rfl) (one_all (by kernel_rfl)) (by omega) (Nat.zero_le _) ?_; intro v' w9 ho' hg' hk'; obtain ⟨z, cz, rfl⟩ := ownForm ho' (by omega); have T9 := Tab.grow1 (x := p) T1H.out (fun b hb => by rw [World.size_alloc] at hb; rw [hcol1, if_neg (by omega)]) hu2 hu3 HU.out hg' ho' hk' rfl rfl; have c9 : w9.cell? ⟨gx, 3, none⟩ = some (.slice b1 t.keys.length b2) := (by simp [World.cell?, T9.blk]); have f9 := frozen_of_row w9 gx 3 _ _ T9.blk; have l9 := (Array.getElem?_eq_some_iff.1 T9.blk).1; have HG9 := Lib.hid hg'; have T9H := Lib.hid T9; clear ho' hg' hk' T9))
 have hg9 := HG9.out
 have hs9 := hg9.size
 rw [World.size_alloc] at hs9
 have T12 := T9H.out.setX 3 (.slice (some ⟨z, 0, none⟩) (t.keys.length + 1) cz)
 have hs12 : SlcAt (fun b => n0 ≤ b ∧ b < w.heap.size) (w9.setCell ⟨gx, 3, none⟩ (.slice (some ⟨z, 0, none⟩) (t.keys.length + 1) cz)) 1 strR l (.slice p1 p2 p3) := HS.out.keep (fun b hb hl => (heap_setCell_other w9 ⟨gx, 3, none⟩ b _ (fun e => by (have h : b = gx := (by simpa using e)); omega)).trans ((hg9.block b (by rw [World.size_alloc]; omega) (fun e => by have := (hlt b e.symm).2; omega)).trans ((xal w _).block b hl))) (fun b hb hl => ⟨hb, hl⟩) (fun _ _ h => h)
 have hK12 : KeptG B gc [gx] w (w9.setCell ⟨gx, 3, none⟩ (.slice (some ⟨z, 0, none⟩) (t.keys.length + 1) cz)) := (((KeptG.refl B gc [gx] w).trans (KeptG.of_ext (xal w _))).grown hg9 (fun b hb => ⟨(hlt b hb).1, fun hB e => by have h2 := (T1H.out.tk.lt b hb).1.2; rw [e, hc9 hB] at h2; omega⟩)).setCell (.inr ⟨by simp, hgB⟩) 3 _
 have hw12 : w.heap.size ≤ (w9.setCell ⟨gx, 3, none⟩ (.slice (some ⟨z, 0, none⟩) (t.keys.length + 1) cz)).heap.size := by rw [World.size_setCell]; omega
 clear hg9 HG9 T9H c9 f9 l9
 generalize w9.setCell ⟨gx, 3, none⟩ (.slice (some ⟨z, 0, none⟩) (t.keys.length + 1) cz) = w12 at *
 have hlt2 : ∀ b, (Value.slice d1 k.length d2).ownBlock = some b → B ≤ b ∧ b < n0 := fun b hb => by
  obtain ⟨⟨e1, e2⟩, e3⟩ := T12.kc.lt b hb
  refine ⟨e1, ?_⟩
  rcases Nat.lt_or_ge b n0 with h | h
  ·exact h
  ·rw [hcol1] at e2
   split at e2
   ·rw [hn4 b h] at e2; omega
   ·omega
 obtain ⟨col2, hcol2⟩ : ∃ col2 : Nat → Nat, ∀ b, col2 b = if b < w12.heap.size then (if col1 b = 4 then 3 else col1 b) else 3 := ⟨_, fun _ => rfl⟩
 have T13 := (T12.recF col2 (fun b hb h4 => by rw [hcol2, if_pos hb, if_neg (by omega)])).ext (show Xk.Ext w12 (w12.alloc (.cells #[.slice p1 p2 p3] 35)) from (Below.refl _ _).alloc (Nat.le_refl _) _)
 obtain ⟨us2, -, hown2, -, hv2, hv3, hv4⟩ := T13.kc
 have hxs : strsR (fun b => (B ≤ b ∧ col2 b = 3) ∧ ¬ (Value.slice d1 k.length d2).ownBlock = some b) (w12.alloc (.cells #[.slice p1 p2 p3] 35)) l [.slice p1 p2 p3] :=
  ⟨_, rfl, hs12.keep (fun b hb hl => (show Xk.Ext w12 _ from (Below.refl _ _).alloc (Nat.le_refl _) _).block b hl) (fun b hb hl => ⟨⟨by omega, by rw [hcol2, if_pos hl, hcol1, if_pos hb.2, hn4 b hb.1, if_pos rfl]⟩, fun e => by have := (hlt2 b e).2; omega⟩) (fun _ _ h => h)⟩
 have c12 : w12.cell? ⟨gx, 5, none⟩ = some (.slice d1 k.length d2) := by simp [World.cell?, T12.blk]
 have lx12 : gx < w12.heap.size := by omega
 have hc29 : B ≤ gc → col2 gc = 9 := fun h => by
  have h2 := h90 h
  rw [hcol2, if_pos (show gc < w12.heap.size by omega), hcol1, if_pos (show gc < w.heap.size by omega), h2]
  rfl
 have HOW2 := Lib.hid hown2
 have T13H := Lib.hid T13
 have HV4 := Lib.hid hv4
 have HXS := Lib.hid hxs
 clear Hi Hz0 Hz1 Hz2 i0 hown2 T12 T13 hv4 hxs cK
 obtain ⟨i0, hi, hz0, hz1, hz2⟩ := infoParts Tryz.infoStrs
 have Hi := Lib.hid hi
 have Hz0 := Lib.hid hz0
 have Hz1 := Lib.hid hz1
 have Hz2 := Lib.hid hz2
 clear hi hz0 hz1 hz2
 go_wp2_with (at_builtin; refine Xo.wpList_appb 0 rfl _ _ 34 rfl 35 i0 _ 1 24 Tryz.underlying34 Hi.out Hz0.out Hz1.out Hz2.out rfl (by decide) (.slice d1 k.length d2) k.length us2.flatten rfl HOW2.out w12.heap.size 0 1 1 [.slice p1 p2 p3] rfl (by decide) rfl (cells_list w12 _ _ rfl) (one_all (by kernel_rfl)) (by omega) (Nat.zero_le _) ?_; intro v' w13 ho' hg' hk'; obtain ⟨z2, cz2, rfl⟩ := ownForm ho' (by omega); have T14 := Tab.grow3 (x := l) T13H.out (fun b hb => by rw [World.size_alloc] at hb; rw [hcol2, if_neg (by omega)]) hv2 hv3 HV4.out hg' ho' hk' rfl HXS.out; have c13 : w13.cell? ⟨gx, 5, none⟩ = some (.slice d1 k.length d2) := (by simp [World.cell?, T14.blk]); have f13 := frozen_of_row w13 gx 5 _ _ T14.blk; have l13 := (Array.getElem?_eq_some_iff.1 T14.blk).1; have HG13 := Lib.hid hg'; have T14H := Lib.hid T14; clear ho' hg' hk' T14)
 go_end0
 exact ⟨rfl, ⟨col2, _, _, _, _, T14H.out.setX 5 (.slice (some ⟨z2, 0, none⟩) (k.length + 1) cz2), hc29⟩, ((hK12.trans (KeptG.of_ext (xal w12 _))).grown HG13.out (fun b hb => ⟨(hlt2 b hb).1, fun hB e => by have h2 := (T13H.out.kc.lt b hb).1.2; rw [e, hc29 hB] at h2; omega⟩)).setCell (.inr ⟨by simp, hgB⟩) 5 _⟩
structure ChkQ (Q : P12.R → Prop) : Prop where
 keep : ∀ r r', Q r → P12.Keeps r r' → Q r'
 chk : ∀ r0, Q r0 → P12.isT [67, 72, 69, 67, 75] r0 = true → ∀ (br gx gc B : Nat) (t : P12.Tb) (k : List (List P12.T)) (s : PS) (w : World) (hr : Ps br s w) (hx : TabAt B gx gc t k w) (h1 : br < gx) (hgs : gc < w.heap.size) (hl : t.checks.length ≤ 100),
  Calls Tryz.prog 208 #[rp br, .pointer (some ⟨gx, 1, none⟩)] w fun e w' => ∃ x s', e = .returned (.tuple #[]) ∧ TabAt B gx gc { t with checks := t.checks ++ [x] } k w' ∧ KeptG B gc [br, gx] w w' ∧ Ps br s' w' ∧ Nx (P12.within P12.expr) s x s' ∧ Sk s s'
theorem ChkQ.sk {Q : P12.R → Prop} (h : ChkQ Q) {s s' : PS} (hs : ∀ r, s = .ok r → Q r) (k : Sk s s') : ∀ r, s' = .ok r → Q r := fun r e => by
 subst e
 cases s with
 | error e => cases k
 | ok r0 => exact h.keep _ _ (hs r0 rfl) (k r rfl)
theorem chkQ_no : ChkQ P12.NoC := ⟨fun _ _ h k => h.keep k, fun _ h e => by rw [h.no] at e; cases e⟩
end Go.Proofs.YtlpcdpkgnfdpeaaGreatDoor
namespace P12
structure Sm (c : Nat) (t : Tb) (k : List (List T)) (n : Nat) : Prop where
 sum : t.cols.length + t.keys.length + t.checks.length + c ≤ n
 keys : k.length = t.keys.length
 most : n ≤ 18
theorem Sm.add {c : Nat} {t : Tb} {k : List (List T)} {n : Nat} (h : Sm c t k n) (hn : n + 1 ≤ 18) (o : Con) : Sm c (addT t o) (addK k o) (n + 1) := by
 obtain ⟨h1, h2, h3⟩ := h
 cases o with
 | inl e => exact ⟨by simp [addT]; omega, by simpa [addT, addK] using h2, hn⟩
 | inr p => exact ⟨by simp [addT]; omega, by simp [addT, addK, h2], hn⟩
theorem Sk.ok_of {a : PS} {r : R} (h : Sk a (.ok r)) : ∃ r0, a = .ok r0 := by
 cases a with
 | error e => cases h
 | ok r0 => exact ⟨r0, rfl⟩
theorem nameS_ne {s : PS} (hg : ∀ r, s = .ok r → Gd r) {r : R} (h : (nameS s).2 = .ok r) : (nameS s).1 ≠ [] := by
 cases s with
 | error e => cases h
 | ok r0 =>
  unfold nameS at h ⊢
  dsimp only at h ⊢
  cases hn : name r0 with
  | error e => rw [hn] at h; cases h
  | ok p => exact name_ne (hg r0 rfl).good hn
theorem has_yes {x : T} {r : R} (h : isT x r = true) : hasS x (.ok r) = (true, .ok (takes r)) := by
 unfold hasS has
 dsimp only
 rw [if_pos h]
theorem has_no {x : T} {r : R} (h : isT x r = false) : hasS x (.ok r) = (false, .ok r) := by
 unfold hasS has
 dsimp only
 rw [if_neg (by rw [h]; simp)]
theorem con_room {n : Nat} {r r' : R} {s : PS} (h : Sk (conS n r) s) (e : s = .ok r') : n + 1 ≤ 16 := by
 by_cases hn : 16 < n + 1
 ·rw [conS_err hn] at h
  subst e
  cases h
 ·omega
end P12
namespace Go.Proofs.YtlpcdpkgnfdpeaaGreatDoor
open Go.RowKit
open _root_.P12 (PS Gd okB failS isK nextS Nx hasS mustS nameS isNameS roomS openS closeS elementS Sk inS Rw roomC inRow Sm Tl conS)
theorem Ps.kept {br B : Nat} {ks : List Nat} {s : PS} {w w' : World} (h : Ps br s w) (hk : Kept B ks w w') (hB : br < B) (hks : ∀ x ∈ ks, br < x) : Ps br s w' := by
 obtain ⟨b, cap, L, i, d, a, e, h, hs⟩ := h
 have hl := h.lo
 have hb : ∀ x, x ≤ br → x < w.heap.size → w'.heap[x]? = w.heap[x]? := fun x hx hlt => hk.block x (by omega) hlt (fun hm => by have := hks x hm; omega)
 have hc : ∀ {c o : Nat} {v : Value}, c ≤ br → w.cell? ⟨c, o, none⟩ = some v → w'.cell? ⟨c, o, none⟩ = some v := fun {c o v} hle hc => by
  rw [World.cell?_of_block (hb c hle (World.block_lt_of_cell? _ _ hc))]; exact hc
 refine ⟨b, cap, L, i, d, a, e, ⟨(hb br (Nat.le_refl _) (Array.getElem?_eq_some_iff.1 h.blk).1).trans h.blk, h.lo, h.cap, ⟨Nat.lt_of_lt_of_le h.toks.1 hk.size, fun j t hj => ?_⟩, h.hi, h.len⟩, hs⟩
 obtain ⟨h1, h2, h3⟩ := h.toks.2 j t hj
 exact ⟨hc (by omega) h1, hc (by omega) h2, hc (by omega) h3⟩
theorem psLen_lt {br : Nat} {r : P12.R} {s2 : PS} {w w' : World} (h : Ps br (.ok r) w) (h2 : Ps br s2 w') (hlt : ∀ r3, s2 = .ok r3 → r3.l.length < r.l.length) : psLen br w' < psLen br w := by
 rw [h.len]
 have := h.gd.good.pos
 cases s2 with
 | error e => rw [h2.len0]; omega
 | ok r3 => rw [h2.len]; exact hlt r3 rfl
structure Cd (br gx gc B : Nat) (w0 : World) (t : P12.Tb) (k : List (List P12.T)) (c : P12.T) (ty : Int) (nn : Bool) (s : PS) (w : World) : Prop where
 ps : Ps br s w
 tab : TabAt B gx gc t k w
 col : w.heap[gc]? = some (.cells #[bs c, .int .i64 ty, .bool nn] 51)
 kept : Kept B [br, gx] w0 w
 h1 : br < gx
 h2 : B ≤ gc
section
variable {br gx gc B : Nat} {w0 : World} {t t' : P12.Tb} {k k' : List (List P12.T)} {c : P12.T} {ty : Int} {nn : Bool} {s s' : PS} {w w' : World}
theorem Cd.step (F : Cd br gx gc B w0 t k c ty nn s w) (ht : Turn br w w') (hp : Ps br s' w') : Cd br gx gc B w0 t k c ty nn s' w' := by
 obtain ⟨a1, a2, a3, a4, a5, a6⟩ := F
 have hb := a2.bounds
 exact ⟨hp, a2.turn ht a5, ht.held a3 (by omega), a4.trans (Kept.of_turn ht (by simp)), a5, a6⟩
theorem Cd.ext (F : Cd br gx gc B w0 t k c ty nn s w) (hx : Xk.Ext w w') : Cd br gx gc B w0 t k c ty nn s w' := F.step (Turn.of_ext hx) (F.ps.ext hx)
theorem Cd.gs (F : Cd br gx gc B w0 t k c ty nn s w) : gc < w.heap.size := (Array.getElem?_eq_some_iff.1 F.col).1
theorem Cd.cells (F : Cd br gx gc B w0 t k c ty nn s w) : w.cell? ⟨gc, 0, none⟩ = some (bs c) ∧ w.cell? ⟨gc, 1, none⟩ = some (.int .i64 ty) ∧ w.cell? ⟨gc, 2, none⟩ = some (.bool nn) ∧ w.frozen? ⟨gc, 1, none⟩ = false ∧ w.frozen? ⟨gc, 2, none⟩ = false := by
 refine ⟨?_, ?_, ?_, frozen_of_row w gc 1 _ _ F.col, frozen_of_row w gc 2 _ _ F.col⟩ <;> simp [World.cell?, F.col]
theorem Cd.setO (F : Cd br gx gc B w0 t k c ty nn s w) (o : Nat) (u : Value) {ty' : Int} {nn' : Bool} (h : (#[bs c, .int .i64 ty, .bool nn] : Array Value).setIfInBounds o u = #[bs c, .int .i64 ty', .bool nn']) : Cd br gx gc B w0 t k c ty' nn' s (w.setCell ⟨gc, o, none⟩ u) := by
 obtain ⟨a1, a2, a3, a4, a5, a6⟩ := F
 have hb := a2.bounds
 exact ⟨Ps.setCell a1 (by omega) _ _, a2.setO a6 _ _, (heap_setCell_same w gc o _ _ _ a3).trans (by rw [h]), a4.setCell (.inl a6) _ _, a5, a6⟩
theorem Cd.con (F : Cd br gx gc B w0 t k c ty nn s w) {ks : List Nat} (hA : TabAt B gx gc t' k' w') (hK : KeptG B gc ks w w') (hks : ∀ x ∈ ks, x ∈ [br, gx]) (hp : Ps br s' w') : Cd br gx gc B w0 t' k' c ty nn s' w' := by
 have hg := F.gs
 obtain ⟨a1, a2, a3, a4, a5, a6⟩ := F
 exact ⟨hp, hA, (hK.fore a6 hg).trans a3, a4.trans (hK.kept.mono (Nat.le_refl _) hks), a5, a6⟩
end
def ColPost (br gx B n : Nat) (t : P12.Tb) (k : List (List P12.T)) (s : PS) (w : World) (e : Ending) (w' : World) : Prop := ∃ t' k' n' s', e = .returned (.int .i64 (n' : Nat)) ∧ TabAt B gx 0 t' k' w' ∧ Kept B [br, gx] w w' ∧ Ps br s' w' ∧ Nx (P12.partC t k n) s (t', k', n') s' ∧ Sk s s' ∧ Sm 0 t' k' n' ∧ ∀ r, s' = .ok r → n' ≤ 16
theorem col_k {Q : P12.R → Prop} (hQ : ChkQ Q) (br gx B n : Nat) (t : P12.Tb) (k : List (List P12.T)) (s : PS) (w : World) (hr : Ps br s w) (hx : TabAt B gx 0 t k w) (h1 : br < gx) (hsm : Sm 0 t k n) (hn : n ≤ 16) (hnm : ∀ r, (nameS s).2 = .ok r → n + 1 ≤ 16) (hQs : ∀ r, s = .ok r → Q r) :
  Calls Tryz.prog 209 #[rp br, rp gx, .int .i64 ((n + 1 : Nat) : Int)] w (ColPost br gx B n t k s w) := by
 have HR := Lib.hid hr
 have HX := Lib.hid hx
 have HB := hx.bounds
 have lr := hr.lt
 have hNm := P12.nx_name s
 have hSm := P12.sk_name s
 have hne : ∀ r, (nameS s).2 = .ok r → (nameS s).1 ≠ [] ∧ n + 1 ≤ 16 := fun r h => ⟨P12.nameS_ne hr.gds h, hnm r h⟩
 clear hr hx hnm
 go_enter Tryz.func209, Tryz.ntmps209
 go_wp2_with fail
 refine (name_k br s _ HR.out).mono ?_
 rintro e w1 ⟨rfl, ht1, hp1⟩
 generalize nameS s = q at hNm hSm hne hp1 ⊢
 obtain ⟨c, s1⟩ := q
 dsimp only at hNm hSm hne hp1 ⊢
 have HNM := Lib.hid hNm
 have HSM := Lib.hid hSm
 have HNE := Lib.hid hne
 have hs1 := ht1.size
 have F2 : Cd br gx w1.heap.size B w t k c 0 false s1 (w1.alloc (colO c 0)) :=
  ⟨hp1.ext (xal w1 _), ((HX.out.turn ht1 h1).mark (Nat.le_refl _)).ext (xal w1 _), heap_new w1 _, (Kept.of_turn ht1 (by simp)).trans (Kept.of_ext (xal w1 _)), h1, by omega⟩
 clear hNm hSm hne ht1 hp1 HR HX
 go_upto_block 0 with fail
 generalize w1.alloc (colO c 0) = w2 at *
 generalize w1.heap.size = gc at *
 clear hs1
 try dsimp only [Act.put]
 go_cut [] from 8 (fun w' => ∃ ty s2, Nx P12.typeOf s1 ty s2 ∧ Sk s1 s2 ∧ Cd br gx gc B w t k c ty false s2 w')
 case first =>
  go_wp2_with fail
  refine (may_k br s1 [73, 78, 84] (by decide) _ F2.ps).mono ?_
  rintro e w3 ⟨rfl, ht3, hp3⟩
  have F3 := F2.step ht3 hp3
  clear ht3 hp3 F2
  cases hb1 : (hasS [73, 78, 84] s1).1
  case true =>
   obtain ⟨k0, k1, k2, g1, g2⟩ := F3.cells
   have lg := F3.gs
   go_wp2_with fail
   go_meet
   case rel => exact ⟨2, _, P12.nx_ty_int hb1, P12.sk_has _ _, F3.setO 1 (.int .i64 2) rfl⟩
  rw [(P12.hasS_no hb1).1] at F3
  go_wp2_with fail
  refine (may_k br s1 [66, 79, 79, 76] (by decide) _ F3.ps).mono ?_
  rintro e w4 ⟨rfl, ht4, hp4⟩
  have F4 := F3.step ht4 hp4
  clear ht4 hp4 F3
  cases hb2 : (hasS [66, 79, 79, 76] s1).1
  case true =>
   obtain ⟨k0, k1, k2, g1, g2⟩ := F4.cells
   have lg := F4.gs
   go_wp2_with fail
   go_meet
   case rel => exact ⟨1, _, P12.nx_ty_bool hb2, P12.sk_has _ _, F4.setO 1 (.int .i64 1) rfl⟩
  rw [(P12.hasS_no hb2).1] at F4
  go_wp2_with fail
  refine (may_k br s1 [84, 69, 88, 84] (by decide) _ F4.ps).mono ?_
  rintro e w5 ⟨rfl, ht5, hp5⟩
  have F5 := F4.step ht5 hp5
  clear ht5 hp5 F4
  cases hb3 : (hasS [84, 69, 88, 84] s1).1
  case true =>
   obtain ⟨k0, k1, k2, g1, g2⟩ := F5.cells
   have lg := F5.gs
   go_wp2_with fail
   go_meet
   case rel => exact ⟨3, _, P12.nx_ty_text hb3, P12.sk_has _ _, F5.setO 1 (.int .i64 3) rfl⟩
  rw [(P12.hasS_no hb3).1] at F5
  go_wp2_with fail
  refine (fail_k br s1 120 (by decide) _ F5.ps).mono ?_
  rintro e w6 ⟨rfl, ht6, hp6⟩
  have F6 := F5.step ht6 hp6
  clear ht6 hp6 F5
  go_wp2_with fail
  go_meet
  case rel => exact ⟨0, _, P12.nx_ty_no hb1 hb2 hb3, P12.sk_fail _ _, F6⟩
 case rest =>
  obtain ⟨ty, s2, hNT, hST, F⟩ := hcut
  have HNT := Lib.hid hNT
  have HST := Lib.hid hST
  clear F2 hNT hST
  go_upto_block 1 with fail
  go_cut [2] from 8 (fun v w' => ∃ t' k' n' nn s3, v = .int .i64 (n' : Nat) ∧ Cd br gx gc B w t' k' c ty nn s3 w' ∧ Nx (fun r => P12.tailF c r.l.length t k (n + 1) false r) s2 (t', k', n', nn) s3 ∧ Sk s2 s3 ∧ Sm 1 t' k' n' ∧ ∀ r, s3 = .ok r → n' ≤ 16)
  case first =>
   go_wp2
   go_loopw [2] (fun v wr => ∃ (t' : P12.Tb) (k' : List (List P12.T)) (n' : Nat) (nn : Bool) (s' : PS), v = .int .i64 (n' : Nat) ∧ Cd br gx gc B w t' k' c ty nn s' wr ∧ Tl c (fun r => P12.tailF c r.l.length t k (n + 1) false r) s2 s' t' k' n' nn ∧ Sm 1 t' k' n' ∧ ∀ r, s' = .ok r → n' ≤ 16) (fun _ wr => psLen br wr)
   case atStart => exact ⟨t, k, n + 1, false, s2, rfl, F, Tl.start _ _ _ _ _, ⟨by have := hsm.sum; omega, hsm.keys, by omega⟩, fun r e => by
    subst e
    obtain ⟨r1, e1⟩ := P12.Sk.ok_of HST.out
    exact (HNE.out r1 e1).2⟩
   case round =>
    obtain ⟨t', k', n', nn, s', rfl, F', hTl, hsm', hok⟩ := hrel
    have HTL := Lib.hid hTl
    have HSM' := Lib.hid hsm'
    clear F hTl hsm' hsm
    go_wp2_with fail
    refine (ok_any br s' _ F'.ps).mono ?_
    rintro e w9 ⟨rfl, rfl⟩
    cases s' with
    | error e =>
     have hNE := P12.Tl.err HTL.out
     have hSE := HTL.out.1
     go_wp2_with fail
     go_meet
     case rel => exact ⟨t', k', n', nn, .error e, rfl, F', hNE _, hSE, HSM'.out, fun r e => by cases e⟩
    | ok r =>
     have hgd := F'.ps.gd
     have HGD := Lib.hid hgd
     have hn16 := hok r rfl
     have hcn : c ≠ [] := by
      obtain ⟨r2, e2⟩ := P12.Sk.ok_of HTL.out.1
      rw [e2] at HST
      obtain ⟨r1, e1⟩ := P12.Sk.ok_of HST.out
      exact (HNE.out r1 e1).1
     have HCN := Lib.hid hcn
     have HPL := Lib.hid fun (s8 : PS) (W : World) (h : Ps br s8 W) (hl : ∀ r3, s8 = .ok r3 → r3.l.length < r.l.length) => psLen_lt F'.ps h hl
     have hkl : t'.keys.length ≤ 100 ∧ k'.length ≤ 100 ∧ t'.checks.length ≤ 100 := by have := HSM'.out.sum; have := HSM'.out.keys; have := HSM'.out.most; omega
     have hgB := F'.tab.bounds
     have hgcB := F'.h2
     clear hgd hok hcn
     go_wp2_with fail
     refine (may_k br (.ok r) [78, 79, 84] (by decide) _ F'.ps).mono ?_
     rintro e w3 ⟨rfl, ht3, hp3⟩
     have F3 := F'.step ht3 hp3
     clear ht3 hp3 F'
     cases hN : P12.isT [78, 79, 84] r
     case true =>
      obtain ⟨hTN, hlt⟩ := HTL.out.not HGD.out hN
      rw [P12.has_yes hN] at F3 ⊢
      dsimp only at F3 ⊢
      go_wp2_with fail
      refine (must_k br _ [78, 85, 76, 76] (by decide) _ F3.ps).mono ?_
      rintro e w4 ⟨rfl, ht4, hp4⟩
      have F4 := F3.step ht4 hp4
      obtain ⟨k0, k1, k2, g1, g2⟩ := F4.cells
      have lg := F4.gs
      have F5 := F4.setO 2 (.bool true) (nn' := true) rfl
      have hm := HPL.out _ _ F5.ps hlt
      clear ht4 hp4 F3
      go_wp2_with fail
      go_roundw
      case rel => exact ⟨t', k', n', true, _, rfl, F5, hTN, HSM'.out, fun _ _ => hn16⟩
      case measure => exact hm
     rw [P12.has_no hN] at F3 ⊢
     dsimp only at F3 ⊢
     go_wp2_with fail
     refine (word_k br (.ok r) [80, 82, 73, 77, 65, 82, 89] _ F3.ps).mono ?_
     rw [P12.isK_word HGD.out (by decide)]
     rintro e w4 ⟨rfl, hx4⟩
     have F4 := F3.ext hx4
     clear hx4 F3
     cases hP : P12.isT [80, 82, 73, 77, 65, 82, 89] r
     case true =>
      have hC : P12.constrains r = true := by simp [P12.constrains, hP]
      have hcon := P12.nx_con_prim (n := n') hP (P12.nx_one HCN.out (mustS [75, 69, 89] (conS n' r)))
      obtain ⟨hTC, hlt⟩ := HTL.out.con HGD.out hN hC hcon (P12.sk_must _ _)
      have hrm := fun r3 => P12.con_room (n := n') (r := r) (r' := r3) (P12.sk_must [75, 69, 89] (conS n' r))
      have HTC := Lib.hid hTC
      rw [hP, Bool.or_true] at HTC
      clear hcon hTC
      go_wp2_with fail
      refine (room_k br (.ok r) (n' + 1) 16 _ F4.ps).mono ?_
      rintro e w5 ⟨rfl, ht5, hp5⟩
      have F5 := F4.step ht5 hp5
      clear ht5 hp5 F4
      go_wp2_with fail
      refine (next_k br _ _ F5.ps).mono ?_
      rintro e w6 ⟨rfl, ht6, hp6⟩
      have F6 : Cd br gx gc B w t' k' c ty nn (conS n' r) w6 := F5.step ht6 hp6
      clear ht6 hp6 F5
      go_wp2_with fail
      refine (must_k br _ [75, 69, 89] (by decide) _ F6.ps).mono ?_
      rintro e w7 ⟨rfl, ht7, hp7⟩
      have F7 := F6.step ht7 hp7
      obtain ⟨k0, k1, k2, g1, g2⟩ := F7.cells
      have lg := F7.gs
      have F8 := F7.setO 2 (.bool true) (nn' := true) rfl
      clear ht7 hp7 F6
      go_upto_region 19 with fail
      generalize w7.setCell ⟨gc, 2, none⟩ (.bool true) = w8 at *
      clear k0 k1 k2 g1 g2 F7 lg
      obtain ⟨k0, -, -, -, -⟩ := F8.cells
      have lg := F8.gs
      have hB8 := F8.tab.bounds
      go_wp2_with fail
      refine (key_k B gx gc w8.heap.size t' k' true [c] (some ⟨w8.heap.size, 0, none⟩) 1 1 _ ((F8.tab.fresh lg).ext (xal w8 _)) ⟨hB8.2, lg, by rw [World.size_alloc]; omega⟩ (slc_str (heap_new w8 _) (Nat.le_refl _)) ⟨hkl.1, hkl.2.1⟩).mono ?_
      rintro e w10 ⟨rfl, hA, hKG⟩
      have F9 := F8.ext (xal w8 (.cells #[bs c] 9))
      have hp10 := F9.ps.kept hKG.kept (by omega) (fun x hx => by simp at hx; omega)
      have F10 : Cd br gx gc B w (P12.addT t' (.inr (true, [c]))) (P12.addK k' (.inr (true, [c]))) c ty true _ w10 := F9.con hA hKG (fun x hx => by simp at hx; simp [hx]) hp10
      have hm := HPL.out _ _ hp10 hlt
      clear hA hKG hp10 F8 F9
      go_wp2_with fail
      go_roundw
      case rel => exact ⟨_, _, n' + 1, true, _, rfl, F10, HTC.out, HSM'.out.add (by omega) _, fun r3 e => hrm r3 e⟩
      case measure => exact hm
     have hp0 : (nn || P12.isT [80, 82, 73, 77, 65, 82, 89] r) = nn := by rw [hP, Bool.or_false]
     go_wp2_with fail
     refine (word_k br (.ok r) [85, 78, 73, 81, 85, 69] _ F4.ps).mono ?_
     rw [P12.isK_word HGD.out (by decide)]
     rintro e w5 ⟨rfl, hx5⟩
     have F5 := F4.ext hx5
     clear hx5 F4
     cases hU : P12.isT [85, 78, 73, 81, 85, 69] r
     case true =>
      have hC : P12.constrains r = true := by simp [P12.constrains, hU]
      have hcon := P12.nx_con_uniq (n := n') hU (P12.nx_one HCN.out (conS n' r))
      obtain ⟨hTC, hlt⟩ := HTL.out.con HGD.out hN hC hcon (Sk.refl _)
      have hrm := fun r3 => P12.con_room (n := n') (r := r) (r' := r3) (Sk.refl (conS n' r))
      have HTC := Lib.hid hTC
      rw [hp0] at HTC
      clear hcon hTC
      go_wp2_with fail
      refine (room_k br (.ok r) (n' + 1) 16 _ F5.ps).mono ?_
      rintro e w6 ⟨rfl, ht6, hp6⟩
      have F6 := F5.step ht6 hp6
      clear ht6 hp6 F5
      go_wp2_with fail
      refine (next_k br _ _ F6.ps).mono ?_
      rintro e w8 ⟨rfl, ht8, hp8⟩
      have F8 : Cd br gx gc B w t' k' c ty nn (conS n' r) w8 := F6.step ht8 hp8
      clear ht8 hp8 F6
      obtain ⟨k0, -, -, -, -⟩ := F8.cells
      have lg := F8.gs
      have hB8 := F8.tab.bounds
      go_wp2_with fail
      refine (key_k B gx gc w8.heap.size t' k' false [c] (some ⟨w8.heap.size, 0, none⟩) 1 1 _ ((F8.tab.fresh lg).ext (xal w8 _)) ⟨hB8.2, lg, by rw [World.size_alloc]; omega⟩ (slc_str (heap_new w8 _) (Nat.le_refl _)) ⟨hkl.1, hkl.2.1⟩).mono ?_
      rintro e w10 ⟨rfl, hA, hKG⟩
      have F9 := F8.ext (xal w8 (.cells #[bs c] 9))
      have hp10 := F9.ps.kept hKG.kept (by omega) (fun x hx => by simp at hx; omega)
      have F10 : Cd br gx gc B w (P12.addT t' (.inr (false, [c]))) (P12.addK k' (.inr (false, [c]))) c ty nn _ w10 := F9.con hA hKG (fun x hx => by simp at hx; simp [hx]) hp10
      have hm := HPL.out _ _ hp10 hlt
      clear hA hKG hp10 F8 F9
      go_wp2_with fail
      go_roundw
      case rel => exact ⟨_, _, n' + 1, nn, _, rfl, F10, HTC.out, HSM'.out.add (by omega) _, fun r3 e => hrm r3 e⟩
      case measure => exact hm
     go_wp2_with fail
     refine (word_k br (.ok r) [67, 72, 69, 67, 75] _ F5.ps).mono ?_
     rw [P12.isK_word HGD.out (by decide)]
     rintro e w6 ⟨rfl, hx6⟩
     have F6 := F5.ext hx6
     clear hx6 F5
     cases hK : P12.isT [67, 72, 69, 67, 75] r
     case true =>
      have hC : P12.constrains r = true := by simp [P12.constrains, hK]
      have HCO := Lib.hid fun (x : P12.E) (s4 : PS) (h : Nx (P12.within P12.expr) (conS n' r) x s4) (k : Sk (conS n' r) s4) => HTL.out.con HGD.out hN hC (P12.nx_con_check hK h) k
      go_wp2_with fail
      refine (room_k br (.ok r) (n' + 1) 16 _ F6.ps).mono ?_
      rintro e w7 ⟨rfl, ht7, hp7⟩
      have F7 := F6.step ht7 hp7
      clear ht7 hp7 F6
      go_wp2_with fail
      refine (next_k br _ _ F7.ps).mono ?_
      rintro e w8 ⟨rfl, ht8, hp8⟩
      have F8 : Cd br gx gc B w t' k' c ty nn (conS n' r) w8 := F7.step ht8 hp8
      have lg := F8.gs
      have lgx : gx < w8.heap.size := by have := F8.tab.bounds; omega
      clear ht8 hp8 F7
      go_wp2_with fail
      refine (hQ.chk r (hQ.sk (hQ.sk (hQ.sk hQs HSM.out) HST.out) HTL.out.1 r rfl) hK br gx gc B t' k' _ _ F8.ps F8.tab h1 F8.gs hkl.2.2).mono ?_
      rintro e w10 ⟨x, s4, rfl, hA, hKG, hp10, hn10, hsk10⟩
      obtain ⟨hTC, hlt⟩ := HCO.out x s4 hn10 hsk10
      have hrm := fun r3 => P12.con_room (n := n') (r := r) (r' := r3) hsk10
      rw [hp0] at hTC
      have F10 : Cd br gx gc B w (P12.addT t' (.inl x)) (P12.addK k' (.inl x)) c ty nn s4 w10 := F8.con hA hKG (fun x hx => hx) hp10
      have hm := HPL.out _ _ hp10 hlt
      clear hA hKG hp10 F8
      go_wp2_with fail
      go_roundw
      case rel => exact ⟨_, _, n' + 1, nn, s4, rfl, F10, hTC, HSM'.out.add (by omega) _, fun r3 e => hrm r3 e⟩
      case measure => exact hm
     have hC : P12.constrains r = false := by simp [P12.constrains, hP, hU, hK]
     have hN3 := HTL.out.out HGD.out hN hC
     have hS3 := HTL.out.1
     go_wp2_with fail
     go_meet
     case rel => exact ⟨t', k', n', nn, .ok r, rfl, F6, hN3, hS3, HSM'.out, fun _ _ => hn16⟩
  case rest =>
   obtain ⟨t', k', n', nn, s3, rfl, F3, hNx, hSk, hsm', hok⟩ := hcut
   have hN := P12.nx_partC HNM.out HNT.out hNx
   have hS : Sk s s3 := HSM.out.trans (HST.out.trans hSk)
   have HN := Lib.hid hN
   have HS := Lib.hid hS
   have HOK := Lib.hid hok
   clear F hNx hSk hN hS HNM HNT HST HNE HSM hok
   obtain ⟨k0, cY, k2, -, -⟩ := F3.cells
   obtain ⟨col, tc, tk, tq, kc, T, h9⟩ := F3.tab
   have hgB := F3.h2
   have h9 := h9 hgB
   have lY := F3.gs
   obtain ⟨a1, a2, b1, b2, c1, c2, d1, d2, rfl, rfl, rfl, rfl⟩ := T.form
   have cC : wc.cell? ⟨gx, 2, none⟩ = some (.slice a1 t'.cols.length a2) := by simp [World.cell?, T.blk]
   have lgx : gx < wc.heap.size := (Array.getElem?_eq_some_iff.1 T.blk).1
   have T10 := T.recol 0
   obtain ⟨us, -, hown, -, hu2, hu3, hu4⟩ := T10.tc
   have hlt : ∀ b, (Value.slice a1 t'.cols.length a2).ownBlock = some b → B ≤ b ∧ b < wc.heap.size ∧ b ≠ gc := fun b hb => by
    obtain ⟨⟨h1, h2⟩, h3⟩ := T10.tc.lt b hb
    try dsimp only at h2
    rw [if_pos h3] at h2
    exact ⟨h1, h3, fun e => by rw [e, h9] at h2; omega⟩
   have HF : Hid (∀ W, Xe.ES (Xe.specOf 51 3 (t'.cols.length + 1) (us.flatten ++ [bs c, .int .i64 ty, .bool nn]) (.slice a1 t'.cols.length a2)) wc.drew W → W.cell? ⟨gx, 2, none⟩ = some (.slice a1 t'.cols.length a2) ∧ gx < W.heap.size ∧ W.cell? ⟨gc, 0, none⟩ = some (bs c) ∧ W.cell? ⟨gc, 1, none⟩ = some (.int .i64 ty) ∧ W.cell? ⟨gc, 2, none⟩ = some (.bool nn) ∧ gc < W.heap.size) := Lib.hid fun W hx => by
    have hn : ∀ x, x < B ∨ x = gc → ∀ q ∈ Xe.specOf 51 3 (t'.cols.length + 1) (us.flatten ++ [bs c, .int .i64 ty, .bool nn]) (.slice a1 t'.cols.length a2), q.1 ≠ x := fun x hx q hq e => by
     have := hlt _ (Xe.specOf_block hq)
     omega
    have hs := hx.2.2.2.1
    simp only [World.size_drew] at hs
    have d : ∀ b o v, b < B ∨ b = gc → wc.cell? ⟨b, o, none⟩ = some v → W.cell? ⟨b, o, none⟩ = some v := fun b o v hb hc => hx.cell (show wc.drew.cell? ⟨b, o, none⟩ = some v from hc) (hn b hb)
    exact ⟨d _ _ _ (by omega) cC, by omega, d _ _ _ (by omega) k0, d _ _ _ (by omega) cY, d _ _ _ (by omega) k2, by omega⟩
   have T10H := Lib.hid T10
   have HU := Lib.hid hu4
   have HSM' := Lib.hid hsm'
   have hkl : t'.cols.length ≤ 4000000 := by have := hsm'.sum; have := hsm'.most; omega
   obtain ⟨ks, hks⟩ : ∃ ks : Xe.Specs, ks = Xe.specOf 51 3 (t'.cols.length + 1) (us.flatten ++ [bs c, .int .i64 ty, .bool nn]) (.slice a1 t'.cols.length a2) := ⟨_, rfl⟩
   have HKS := Lib.hid hks
   have HSB : Hid (∀ k ∈ ks, (.slice a1 t'.cols.length a2 : Value).ownBlock = some k.1 ∧ k.1 < (wc).heap.size) := Lib.hid fun k hk => by
    rw [hks] at hk
    exact ⟨Xe.specOf_block hk, ((hown).lt _ (Xe.specOf_block hk)).2⟩
   have HS6 : Hid (∀ k ∈ ks, (.slice a1 t'.cols.length a2 : Value).ownBlock = some k.1 → k ∈ Xe.specOf 51 3 (t'.cols.length + 1) (us.flatten ++ [bs c, .int .i64 ty, .bool nn]) (.slice a1 t'.cols.length a2)) := Lib.hid fun k hk _ => by rw [hks] at hk; exact hk
   have HVL : Hid (∀ b, (.slice a1 t'.cols.length a2 : Value).ownBlock = some b → b < (wc).heap.size) := Lib.hid fun b hb => ((hown).lt b hb).2
   have HOA := Lib.hid (hown)
   clear hks
   rw [← HKS.out] at HF
   obtain ⟨i0, hi, hz0, hz1, hz2⟩ := infoParts Tryz.infoCol
   have Hi := Lib.hid hi
   have Hz0 := Lib.hid hz0
   have Hz1 := Lib.hid hz1
   have Hz2 := Lib.hid hz2
   clear hi hz0 hz1 hz2
   go_upto_region 30 with fail
   have FH := Lib.hid F3
   clear cC k0 k2 hown T10 hu4 F3 cY T hsm'
   refine Xe.wp_region_rel (E := Xe.ES ks) (Xe.pre_ES _) 12 (Xe.O2 8 _ 99 none) (Xe.O2_lt HVL.out (fun b hb => by cases hb)) (Xe.O2_ne (fun b hb e => by cases e)) [(7, Xe.newRow (wc).heap.size [bs c, .int .i64 ty, .bool nn] 51), (8, Xe.appF 51 3 (wc).heap.size (.slice a1 t'.cols.length a2) t'.cols.length us.flatten [bs c, .int .i64 ty, .bool nn])] (by kernel_rfl) (by kernel_rfl) (Xe.stable_es (by
       intro y hy
       simp only [List.mem_cons, List.not_mem_nil, or_false] at hy
       rcases hy with rfl | rfl
       ·exact Xe.newRow.es fun k hk => (HSB.out k hk).2
       ·exact Xe.appFact.es HS6.out fun k hk => (HSB.out k hk).2)) ?_
   simp only [List.take_succ_cons, List.take_zero, List.drop_succ_cons, List.drop_zero]
   repeat (first
    | ((first | refine Xe.rel_det (Xe.pre_ES _) (Xk.wanted_none (by rfl)) (by rfl) (fun K hK => ?_) | refine Xe.rel_det (Xe.pre_ES _) (by rfl) (by rfl) (fun K hK => ?_)); apply Exists.intro; refine ⟨fun W hx hp => ?_, ?_⟩; (obtain ⟨f1, f2, f3, f4, f5, f6⟩ := HF.out _ hx; go_simp; first | exact ⟨rfl, rfl⟩ | ((try refine ⟨by kernel_rfl, ?_⟩); (fail))); (go_simp; refine hK _ ?_; clear hK K))
    | (refine Xe.rel_skip (by rfl) (fun K hK => ?_); go_simp; refine hK _ ?_; clear hK K))
   (refine Xe.rel_make (Xe.pre_ES _) (by rfl) (by rfl) (fun W hx hp => ?_) (fun ynew K hK => ?_); (go_simp; exact Xe.new_row _ _ _ _ (by first | rfl | kernel_rfl) (by have := hx.2.2.2.1; simpa using this)); (go_simp; refine hK _ ?_; clear hK K))
   (refine Xe.rel_make (Xe.pre_ES _) (by rfl) (by rfl) (fun W hx hp => ?_) (fun z1 K hK => ?_); (obtain ⟨g, rfl, hg, hc⟩ := Xe.facts_head hp (by kernel_rfl); exact Xe.make_app1 _ _ _ 29 (by rfl) 51 i0 _ 3 32 Tryz.underlying29 Hi.out Hz0.out Hz1.out Hz2.out rfl (by decide) (.slice a1 t'.cols.length a2) t'.cols.length us.flatten [bs c, .int .i64 ty, .bool nn] (by rfl) (hx.own (m := 1) (Xo.own_drew HOA.out) HS6.out) g 1 (by rfl) (by rfl) hc (one_all (by kernel_rfl)) (by omega) (by have := hx.2.2.2.1; simpa using this) (by rw [HKS.out]; exact fun k hk => hk) (by rfl)); (go_simp; refine hK _ ?_; clear hK K))
   repeat (first
    | ((first | refine Xe.rel_det (Xe.pre_ES _) (Xk.wanted_none (by rfl)) (by rfl) (fun K hK => ?_) | refine Xe.rel_det (Xe.pre_ES _) (by rfl) (by rfl) (fun K hK => ?_)); apply Exists.intro; refine ⟨fun W hx hp => ?_, ?_⟩; (obtain ⟨f1, f2, f3, f4, f5, f6⟩ := HF.out _ hx; go_simp; first | exact ⟨rfl, rfl⟩ | ((try refine ⟨by kernel_rfl, ?_⟩); (fail))); (go_simp; refine hK _ ?_; clear hK K))
    | (refine Xe.rel_skip (by rfl) (fun K hK => ?_); go_simp; refine hK _ ?_; clear hK K))
   refine Xe.rel_nil (fun W hx hp hg => ?_)
   simp only [Xk.factsAll] at hp
   obtain ⟨p1', -, -⟩ := hp
   obtain ⟨z, cz, rfl, ho7, hz7⟩ := p1'.form
   have hg7 := Xe.ES.grown (e := 51) (size := 3) (n := 0) (xs := []) hx HSB.out
   have T11 := Tab.grow0 (x := (c, ty, nn)) T10H.out (fun b hb => if_neg (by omega)) hu2 hu3 HU.out hg7 ho7 (fun b hb => by cases hb; exact hz7) rfl rfl
   have f11 := frozen_of_row W gx 2 _ _ T11.blk
   have c11 : W.cell? ⟨gx, 2, none⟩ = some (.slice a1 t'.cols.length a2) := by simp [World.cell?, T11.blk]
   have HT12 : Hid (TabAt B gx gc { t' with cols := t'.cols ++ [(c, ty, nn)] } k' (W.setCell ⟨gx, 2, none⟩ (.slice (some ⟨z, 0, none⟩) (t'.cols.length + 1) cz))) := Lib.hid
    ⟨_, _, _, _, _, T11.setX 2 (.slice (some ⟨z, 0, none⟩) (t'.cols.length + 1) cz), fun _ => (if_pos lY).trans h9⟩
   have HK12 := Lib.hid ((FH.out.kept.grown hg7 (fun b hb => (hlt b hb).1)).setCell (g := gx) (.inr (.inl (by simp))) 2 (.slice (some ⟨z, 0, none⟩) (t'.cols.length + 1) cz))
   have HP12 := Lib.hid (Ps.setCell (FH.out.ps.grown hg7 (fun b hb => by have := (hlt b hb).1; omega)) (g := gx) h1 2 (.slice (some ⟨z, 0, none⟩) (t'.cols.length + 1) cz))
   have l11 := (Array.getElem?_eq_some_iff.1 T11.blk).1
   clear hx p1' ho7 hg7 T11 HOA HSB HS6 HVL HKS HF hg
   go_wp2_with fail
   refine bodyPost_ret (v := .int .i64 (n' : Nat)) (by simp [results, Tryz.results209, go_sem]) rfl ?_
   exact ⟨_, k', n', s3, rfl, HT12.out.unmark, HK12.out, HP12.out, HN.out, HS.out, ⟨by have := HSM'.out.sum; simp; omega, HSM'.out.keys, HSM'.out.most⟩, HOK.out⟩
open _root_.P12 (PS Gd okB failS isK nextS Nx hasS mustS nameS isNameS roomS openS closeS elementS Sk inS Rw roomC inRow Sm Tl conS Pw)
theorem P12.named_room {n : Nat} {r r' : P12.R} (h : (nameS (roomC 16 n P12.named (.ok r))).2 = .ok r') : n + 1 ≤ 16 := by
 unfold roomC at h
 dsimp only at h
 by_cases hc : (decide (16 < n + 1) && P12.named r) = true
 ·rw [if_pos hc] at h
  cases h
 ·rw [if_neg hc] at h
  cases hn : P12.name r with
  | error e => simp [nameS, hn] at h
  | ok p =>
   rw [P12.name_named hn] at hc
   simp at hc
   omega
theorem table_k {Q : P12.R → Prop} (hQ : ChkQ Q) (br : Nat) (s : PS) (w : World) (hr : Ps br s w) (hQs : ∀ r, s = .ok r → Q r) : Calls Tryz.prog 145 #[rp br] w (Cm br w s (StmtV w) P12.mkTab) := by
 have HR := Lib.hid hr
 have lr := hr.lt
 clear hr
 have hbs : ∀ (W : World), (Instr.build 46 #[(0, Value.int .i64 1)]).run Tryz.prog W = .ok (.agg (stmtL 1 [] nilS nilS nilS nilS [] [] false nilS nilS nilS noE nilS nilS noE nilS nilS 0).toArray) W := fun W => by kernel_rfl
 have HB := Lib.hid hbs
 clear hbs
 go_enter Tryz.func145, Tryz.ntmps145
 go_wp2_with (first | (refine wpList_builtF rfl 46 _ rfl _ rfl _ (HB.out _) ?_) | ((refine wpList_putRow rfl 46 _ _ rfl ((w.heap.size + 1)) _ _ 46 rfl rfl ((heap_at _ _ (by rw [World.size_alloc]))) rfl (by kernel_rfl) (by kernel_rfl) ?_; intro w2 hp2)))
 have F2 := Dz.start (w1 := w.alloc (.cells zero37.toArray 46)) lr (Turn.refl _ _) (HR.out.ext (xal w (.cells zero37.toArray 46))) (Sk.refl s) (by rw [World.size_alloc]; exact hp2)
 rw [World.size_alloc] at F2
 clear hp2 HB HR
 have hgw : w.heap.size < w.heap.size + 1 := by omega
 generalize w.heap.size + 1 = gx at *
 refine (name_k br s _ F2.ps).mono ?_
 rintro e w3 ⟨rfl, ht3, hp3⟩
 have F3 := F2.step ht3 hp3 (P12.sk_name s)
 have hNA := P12.nx_name s
 clear ht3 hp3 F2
 generalize nameS s = q at F3 hNA ⊢
 obtain ⟨a, s1⟩ := q
 dsimp only at F3 hNA ⊢
 have c3 := F3.cell (o := 1) rfl
 have f3 := F3.free 1
 have l3 := F3.size
 have F4 := (F3.set 1 (bs a)).cells (c' := tabL a nilS nilS nilS nilS) rfl
 clear F3
 go_wp2_with fail
 refine (mustSign_k br s1 [40] (by decide) _ F4.ps).mono ?_
 rintro e wL ⟨rfl, ht5, hp5⟩
 have F5 := F4.step ht5 hp5 (P12.sk_must [40] s1)
 have HNU := Lib.hid fun (t : P12.Tb) (k : List (List P12.T)) (s2 : PS) (h : Nx (fun r => P12.partsF r.l.length { name := a } [] 0 r) (mustS [40] s1) (t, k) s2) => P12.nx_mkTab hNA h
 clear ht5 hp5 F4 hNA c3 f3 l3
 generalize mustS [40] s1 = s2 at F5 HNU
 have hlw := F5.size
 have hT0 : TabAt wL.heap.size gx 0 { name := a } [] wL := ⟨fun _ => 9, nilS, nilS, nilS, nilS, ⟨F5.blk, Own.nil, Own.nil, Own.nil, Own.nil, hlw, Nat.le_refl _⟩, fun _ => rfl⟩
 have h1 : br < gx := by have := F5.zx; have := F5.gzge; have := F5.lo; omega
 have F5H := Lib.hid F5
 have HQ2 := Lib.hid (hQ.sk hQs F5.sk)
 have hP5 := F5.ps
 clear F5
 go_upto_block 0 with fail
 try dsimp only [Act.put]
 go_cut [4] from 5 (fun _ w' => ∃ t' k' s3, Ps br s3 w' ∧ TabAt wL.heap.size gx 0 t' k' w' ∧ Kept wL.heap.size [br, gx] wL w' ∧ Nx (fun r => P12.partsF r.l.length { name := a } [] 0 r) s2 (t', k') s3 ∧ Sk s2 s3)
 case rest =>
  obtain ⟨t', k', s3, hp, hA, hK, hN, hS⟩ := hcut
  have hNN := HNU.out _ _ _ hN
  have hB := hA.bounds
  obtain ⟨tc, tk, tq, kc, hb, s4, s5, s6, s7⟩ := hA.stmt (S := fun b => gx < b) (fun b hb => by omega)
  obtain ⟨x1, x2, x3, rfl⟩ := slc_one s4
  obtain ⟨y1, y2, y3, rfl⟩ := slc_one s5
  obtain ⟨z1, z2, z3, rfl⟩ := slc_one s6
  obtain ⟨v1, v2, v3, rfl⟩ := slc_one s7
  have F6 := (((((F5H.out.row hK hb hp hS).add (stabP_slc stab_col 3 t'.cols (.slice x1 x2 x3)) s4).add (stabP_slc stab_key 4 t'.keys (.slice y1 y2 y3)) s5).add (stabP_slc stab_expr 10 t'.checks (.slice z1 z2 z3)) s6).add (stabP_slc stab_strs 1 k' (.slice v1 v2 v3)) s7)
  clear hp hA hK hN hS hP5 hT0 F5H HNU hb s4 s5 s6 s7
  go_wp2_with fail
  refine (mustSign_k br s3 [41] (by decide) _ F6.ps).mono ?_
  rintro e w8 ⟨rfl, ht8, hp8⟩
  have F8 := F6.step ht8 hp8 (P12.sk_must [41] s3)
  have hb9 := F8.blk
  have hz9 := F8.zero
  have HNN := Lib.hid hNN
  clear ht8 hp8 F6 hNN
  go_wp2_with (first | (refine lw hb9 Tryz.underlying46 ?_) | (refine pw hz9 ?_; intro w13 hp13))
  refine bodyPost_ret (results_row (fn := Tryz.f145) rfl rfl hp13.blk Tryz.underlying46 rfl (by kernel_rfl)) rfl ?_
  refine Dz.finish (x := { P12.made 1 with tb := t', keyCols := k' }) F8 hp13 (fun ⟨⟨⟨⟨_, q1⟩, q2⟩, q3⟩, q4⟩ => ?_) HNN.out
  exact ⟨_, _, _, _, nilS, nilS, nilS, noE, nilS, nilS, noE, nilS, nilS, rfl, q1, q2, q3, q4, SlcAt.nil _ _ _ _, SlcAt.nil _ _ _ _, SlcAt.nil _ _ _ _, rfl, SlcAt.nil _ _ _ _, SlcAt.nil _ _ _ _, rfl, SlcAt.nil _ _ _ _, SlcAt.nil _ _ _ _⟩
 case first =>
  go_wp2
  go_loopw [4] (fun v wr => ∃ (t' : P12.Tb) (k' : List (List P12.T)) (n' : Nat) (s' : PS), v = .int .i64 (n' : Nat) ∧ Ps br s' wr ∧ TabAt wL.heap.size gx 0 t' k' wr ∧ Kept wL.heap.size [br, gx] wL wr ∧ Pw (fun r => P12.partsF r.l.length { name := a } [] 0 r) s2 s' t' k' n' ∧ Sm 0 t' k' n' ∧ ∀ r, s' = .ok r → n' ≤ 16) (fun _ wr => psLen br wr)
  case atStart => exact ⟨{ name := a }, [], 0, s2, rfl, hP5, hT0, Kept.refl _ _ _, Pw.start _ _ _ _, ⟨by simp, rfl, by omega⟩, fun _ _ => by omega⟩
  case round =>
   obtain ⟨t', k', n', s', rfl, hps, hA, hK, hPt, hsm, hok⟩ := hrel
   have HPT := Lib.hid hPt
   have HSM := Lib.hid hsm
   have HK := Lib.hid hK
   clear hPt hsm hK hP5 hT0 HNU F5H
   go_wp2_with fail
   refine (ok_any br s' _ hps).mono ?_
   rintro e w9 ⟨rfl, rfl⟩
   cases s' with
   | error e =>
    have hNE := P12.Pw.err HPT.out
    have hSE := HPT.out.1
    go_wp2_with fail
    go_meet
    case rel => exact ⟨t', k', .error e, hps, hA, HK.out, hNE _, hSE⟩
   | ok r =>
    have HGD := Lib.hid hps.gd
    have HQR := Lib.hid (hQ.sk HQ2.out HPT.out.1 r rfl)
    have hn16 := hok r rfl
    have HPL := Lib.hid fun (s8 : PS) (W : World) (h : Ps br s8 W) (hl : ∀ r3, s8 = .ok r3 → r3.l.length < r.l.length) => psLen_lt hps h hl
    have hkl : t'.keys.length ≤ 100 ∧ k'.length ≤ 100 ∧ t'.checks.length ≤ 100 := by have := HSM.out.sum; have := HSM.out.keys; have := HSM.out.most; omega
    have hB := hA.bounds
    clear hok
    go_upto_block 2 with fail
    try dsimp only [Act.put]
    go_cut [4] from 12 to 80 (fun v w' => ∃ t2 k2 n2 s3, v = .int .i64 (n2 : Nat) ∧ Ps br s3 w' ∧ TabAt wL.heap.size gx 0 t2 k2 w' ∧ Kept wL.heap.size [br, gx] wL w' ∧ Nx (P12.part t' k' n') (.ok r) (t2, k2, n2) s3 ∧ Sk (.ok r) s3 ∧ Sm 0 t2 k2 n2 ∧ ∀ r, s3 = .ok r → n2 ≤ 16)
    case rest =>
     obtain ⟨t2, k2, n2, s3, rfl, hp, hA2, hK2, hN, hS, hsm2, hok2⟩ := hcut
     have HST := Lib.hid (HPT.out.step HGD.out hN hS)
     clear hps hA hN hS
     go_wp2_with fail
     refine (maySign_k br s3 [44] (by decide) _ hp).mono ?_
     rintro e w10 ⟨rfl, ht, hp10⟩
     have hA10 := hA2.turn ht h1
     have hK10 := hK2.trans (Kept.of_turn ht (by simp))
     clear ht hp hA2 hK2
     cases hcm : (hasS [44] s3).1
     case true =>
      obtain ⟨hPT, hlt⟩ := HST.out.2 hcm
      have hm := HPL.out _ _ hp10 hlt
      go_wp2_with fail
      go_roundw
      case rel => exact ⟨t2, k2, n2, _, rfl, hp10, hA10, hK10, hPT, hsm2, fun r3 e => by
       obtain ⟨r2, e2, -⟩ := P12.hasS_yes hcm
       exact hok2 r2 e2⟩
      case measure => exact hm
     rw [(P12.hasS_no hcm).1] at hp10
     obtain ⟨hN, hS⟩ := HST.out.1 hcm
     go_wp2_with fail
     go_meet
     case rel => exact ⟨t2, k2, s3, hp10, hA10, hK10, hN, hS⟩
    case first =>
     go_wp2_with fail
     refine (word_k br (.ok r) [80, 82, 73, 77, 65, 82, 89] _ hps).mono ?_
     rw [P12.isK_word HGD.out (by decide)]
     rintro e w4 ⟨rfl, hx4⟩
     have hp4 := hps.ext hx4
     have hA4 := hA.ext hx4
     have hK4 := HK.out.trans (Kept.of_ext hx4)
     clear hx4 hps hA HK
     cases hP : P12.isT [80, 82, 73, 77, 65, 82, 89] r
     case true =>
      have hC : P12.constrains r = true := by simp [P12.constrains, hP]
      go_wp2_with fail
      refine (room_k br (.ok r) (n' + 1) 16 _ hp4).mono ?_
      rintro e w5 ⟨rfl, ht5, hp5⟩
      go_wp2_with fail
      refine (next_k br _ _ hp5).mono ?_
      rintro e w6 ⟨rfl, ht6, hp6⟩
      go_wp2_with fail
      refine (must_k br _ [75, 69, 89] (by decide) _ hp6).mono ?_
      rintro e w7 ⟨rfl, ht7, hp7⟩
      have ht57 := Turn.trans ht5 (Turn.trans ht6 ht7)
      have HC0 := Lib.hid fun (l : List P12.T) (s8 : PS) (h : Nx (P12.colsOf []) (mustS [75, 69, 89] (conS n' r)) l s8) => P12.nx_part_con (t := t') (k := k') hC (P12.nx_con_prim (n := n') hP h)
      have HS0 : Hid (Sk (conS n' r) (mustS [40] (mustS [75, 69, 89] (conS n' r)))) := Lib.hid ((P12.sk_must [75, 69, 89] _).trans (P12.sk_must [40] _))
      change Ps br (mustS [75, 69, 89] (conS n' r)) w7 at hp7
      generalize mustS [75, 69, 89] (conS n' r) = S3 at hp7 HC0 HS0
      clear ht5 hp5 ht6 hp6 ht7 hp4
      go_wp2_with fail
      refine (mustSign_k br S3 [40] (by decide) _ hp7).mono ?_
      rintro e w8 ⟨rfl, ht8, hp8⟩
      have ht48 := Turn.trans ht57 ht8
      have hA8 := hA4.turn ht48 h1
      have hK8 := hK4.trans (Kept.of_turn ht48 (by simp))
      have l8 := hA8.bounds
      clear ht57 ht8 ht48 hp7 hA4 hK4
      go_wp2_with fail
      refine (names_k br _ _ hp8).mono ?_
      rintro e w9 ⟨v, l, s9, rfl, hsl, ht9, hp9, hn9, hsk9⟩
      obtain ⟨p1, p2, p3, rfl⟩ := slc_one hsl
      have hN := HC0.out l s9 (P12.nx_cols (P12.nx_names hn9))
      have hS := (P12.sk_con n' r).trans (HS0.out.trans hsk9)
      have hrm := fun r3 => P12.con_room (n := n') (r := r) (r' := r3) (HS0.out.trans hsk9)
      have hK9 := hK8.trans (Kept.of_turn ht9 (by simp))
      have hT9 := (hA8.fresh (by omega)).turn ht9 h1
      have hs9 := ht9.size
      clear ht9 hn9 hsk9 hp8 hK8 hA8
      go_wp2_with fail
      refine (key_k wL.heap.size gx 0 w8.heap.size t' k' true l p1 p2 p3 _ hT9 ⟨by omega, by omega, hs9⟩ hsl ⟨hkl.1, hkl.2.1⟩).mono ?_
      rintro e w10 ⟨rfl, hA10, hKG⟩
      have hp10 := hp9.kept hKG.kept (by omega) (fun x hx => by simp at hx; omega)
      go_wp2_with fail
      go_meet
      case rel => exact ⟨_, _, n' + 1, s9, rfl, hp10, hA10, hK9.trans (hKG.kept.mono (Nat.le_refl _) (fun x hx => by simp at hx; simp [hx])), hN, hS, HSM.out.add (by omega) (.inr (true, l)), fun r3 e => hrm r3 e⟩
     go_wp2_with fail
     refine (word_k br (.ok r) [85, 78, 73, 81, 85, 69] _ hp4).mono ?_
     rw [P12.isK_word HGD.out (by decide)]
     rintro e w5 ⟨rfl, hx5⟩
     replace hp4 := hp4.ext hx5
     replace hA4 := hA4.ext hx5
     replace hK4 := hK4.trans (Kept.of_ext hx5)
     clear hx5
     clear w4
     generalize w5 = w4 at *
     cases hU : P12.isT [85, 78, 73, 81, 85, 69] r
     case true =>
      have hC : P12.constrains r = true := by simp [P12.constrains, hU]
      go_wp2_with fail
      refine (room_k br (.ok r) (n' + 1) 16 _ hp4).mono ?_
      rintro e w5 ⟨rfl, ht5, hp5⟩
      go_wp2_with fail
      refine (next_k br _ _ hp5).mono ?_
      rintro e w7 ⟨rfl, ht6, hp7⟩
      have ht57 := Turn.trans ht5 ht6
      have HC0 := Lib.hid fun (l : List P12.T) (s8 : PS) (h : Nx (P12.colsOf []) (conS n' r) l s8) => P12.nx_part_con (t := t') (k := k') hC (P12.nx_con_uniq (n := n') hU h)
      have HS0 : Hid (Sk (conS n' r) (mustS [40] (conS n' r))) := Lib.hid (P12.sk_must [40] _)
      change Ps br (conS n' r) w7 at hp7
      obtain ⟨S3, hS3⟩ : ∃ S3, S3 = conS n' r := ⟨_, rfl⟩
      rw [← hS3] at hp7 HC0
      rw [show mustS [40] (conS n' r) = mustS [40] S3 by rw [hS3]] at HS0
      clear ht5 hp5 ht6 hp4 hS3
      go_wp2_with fail
      refine (mustSign_k br S3 [40] (by decide) _ hp7).mono ?_
      rintro e w8 ⟨rfl, ht8, hp8⟩
      have ht48 := Turn.trans ht57 ht8
      have hA8 := hA4.turn ht48 h1
      have hK8 := hK4.trans (Kept.of_turn ht48 (by simp))
      have l8 := hA8.bounds
      clear ht57 ht8 ht48 hp7 hA4 hK4
      go_wp2_with fail
      refine (names_k br _ _ hp8).mono ?_
      rintro e w9 ⟨v, l, s9, rfl, hsl, ht9, hp9, hn9, hsk9⟩
      obtain ⟨p1, p2, p3, rfl⟩ := slc_one hsl
      have hN := HC0.out l s9 (P12.nx_cols (P12.nx_names hn9))
      have hS := (P12.sk_con n' r).trans (HS0.out.trans hsk9)
      have hrm := fun r3 => P12.con_room (n := n') (r := r) (r' := r3) (HS0.out.trans hsk9)
      have hK9 := hK8.trans (Kept.of_turn ht9 (by simp))
      have hT9 := (hA8.fresh (by omega)).turn ht9 h1
      have hs9 := ht9.size
      clear ht9 hn9 hsk9 hp8 hK8 hA8
      go_wp2_with fail
      refine (key_k wL.heap.size gx 0 w8.heap.size t' k' false l p1 p2 p3 _ hT9 ⟨by omega, by omega, hs9⟩ hsl ⟨hkl.1, hkl.2.1⟩).mono ?_
      rintro e w10 ⟨rfl, hA10, hKG⟩
      have hp10 := hp9.kept hKG.kept (by omega) (fun x hx => by simp at hx; omega)
      go_wp2_with fail
      go_meet
      case rel => exact ⟨_, _, n' + 1, s9, rfl, hp10, hA10, hK9.trans (hKG.kept.mono (Nat.le_refl _) (fun x hx => by simp at hx; simp [hx])), hN, hS, HSM.out.add (by omega) (.inr (false, l)), fun r3 e => hrm r3 e⟩
     go_wp2_with fail
     refine (word_k br (.ok r) [67, 72, 69, 67, 75] _ hp4).mono ?_
     rw [P12.isK_word HGD.out (by decide)]
     rintro e w6 ⟨rfl, hx6⟩
     replace hp4 := hp4.ext hx6
     replace hA4 := hA4.ext hx6
     replace hK4 := hK4.trans (Kept.of_ext hx6)
     clear hx6
     cases hK : P12.isT [67, 72, 69, 67, 75] r
     case true =>
      have hC : P12.constrains r = true := by simp [P12.constrains, hK]
      have HC0 := Lib.hid fun (x : P12.E) (s4 : PS) (h : Nx (P12.within P12.expr) (conS n' r) x s4) => P12.nx_part_con (t := t') (k := k') hC (P12.nx_con_check hK h)
      go_wp2_with fail
      refine (room_k br (.ok r) (n' + 1) 16 _ hp4).mono ?_
      rintro e w7 ⟨rfl, ht7, hp7⟩
      go_wp2_with fail
      refine (next_k br _ _ hp7).mono ?_
      rintro e w8 ⟨rfl, ht8, hp8⟩
      have ht := Turn.trans ht7 ht8
      have hA8 := hA4.turn ht h1
      have hK8 := hK4.trans (Kept.of_turn ht (by simp))
      change Ps br (conS n' r) w8 at hp8
      have l8 := hA8.bounds
      clear ht7 hp7 ht8 ht hp4 hA4 hK4
      go_wp2_with fail
      refine (hQ.chk r HQR.out hK br gx 0 wL.heap.size t' k' _ _ hp8 hA8 h1 (by omega) hkl.2.2).mono ?_
      rintro e w10 ⟨x, s4, rfl, hA10, hKG, hp10, hn10, hsk10⟩
      have hrm := fun r3 => P12.con_room (n := n') (r := r) (r' := r3) hsk10
      go_wp2_with fail
      go_meet
      case rel => exact ⟨_, _, n' + 1, s4, rfl, hp10, hA10, hK8.trans hKG.kept, HC0.out x s4 hn10, (P12.sk_con n' r).trans hsk10, HSM.out.add (by omega) (.inl x), fun r3 e => hrm r3 e⟩
     have hC : P12.constrains r = false := by simp [P12.constrains, hP, hU, hK]
     have HC0 := Lib.hid fun (X : P12.Tb × List (List P12.T) × Nat) (s8 : PS) (h : Nx (P12.partC t' k' n') (roomC 16 n' P12.named (.ok r)) X s8) => P12.nx_part_col hC h
     have HI := Lib.hid fun W (hx : Xk.Ext w6 W) => isName_k br (.ok r) W (hp4.ext hx)
     have HPS := Lib.hid hp4
     obtain ⟨b, cap, L, i, d, a', e, h, hs⟩ := hp4
     obtain ⟨l0, c0, c1, c2, c3, c4⟩ := h.cells
     obtain ⟨t, ht, lb, t0, t1, t2⟩ := h.tok
     have hi := h.hi
     have hlen := h.len
     have hib : (i : Int) < (L.length : Int) := by omega
     have hnt := hs.tok ht
     have lgx : gx < w6.heap.size := by have := hA4.bounds; omega
     clear h hs ht
     have hI : ∀ b, isNameS (.ok r) = b → ∀ W, Xk.Ext w6 W → Calls Tryz.prog 148 #[rp br] W fun e w' => e = .returned (.bool b) ∧ Xk.Ext W w' := fun b e W hx => e ▸ HI.out W hx
     have h3 : (t.kind = 1 ∧ t.text.length ≤ 24) ∨ (t.kind = 1 ∧ ¬ t.text.length ≤ 24) ∨ t.kind ≠ 1 := by omega
     rcases h3 with ⟨hk, hl⟩ | ⟨hk, hl⟩ | hk
     case' _ =>
      have hI := hI true (by simp [isNameS, hnt, hk])
      have hlb : (t.text.length : Int) ≤ 24 := by omega
      have hnm : P12.named r = true := by simp [P12.named, hnt, hk, hl]
      go_wp2_with fail
      refine Xk.reg 17 (Xk.w1 hI fun p => ?_)
      go_wp2_with fail
      refine (room_k br (.ok r) (n' + 1) 16 _ (HPS.out.ext Xk.xt)).mono ?_
      rintro e w3 ⟨rfl, ht3, hp3⟩
      rw [P12.roomC_yes hnm] at hp3
      have hT3 := Turn.trans (tu trivial : Turn br w6 _) ht3
      clear ht3
      go_wp2_with fail
     rotate_left 1
     case' _ =>
      have hI := hI true (by simp [isNameS, hnt, hk])
      have hlb : ¬ (t.text.length : Int) ≤ 24 := by omega
      have hnm : P12.named r = false := by simp [P12.named, hnt, hk, hl]
     rotate_left 1
     case' _ =>
      have hI := hI false (by simp [isNameS, hnt, hk])
      have hnm : P12.named r = false := by simp [P12.named, hnt, hk]
     rotate_right 1
     iterate 2
      case' _ =>
       go_wp2_with fail
       refine Xk.reg 17 (Xk.w1 hI fun p => ?_)
       go_wp2_with fail
       have hp3 := HPS.out.ext (show Xk.Ext w6 (Xk.exw w6 p) from Xk.xt)
       rw [P12.roomC_no (most := 16) (n := n') hnm] at hp3
       have hT3 : Turn br w6 (Xk.exw w6 p) := tu trivial
       generalize Xk.exw w6 p = w3 at hp3 hT3 ⊢
      rotate_left 1
     all_goals
      have hA3 := hA4.turn hT3 h1
      have hK3 := hK4.trans (Kept.of_turn hT3 (by simp))
      have hnr := fun r3 => P12.named_room (n := n') (r := r) (r' := r3)
      have hsk3 := P12.sk_room 16 n' P12.named (.ok r)
      clear HI hI hnt hk hnm c0 c1 c2 c3 c4 t0 t1 t2 hT3 hA4 hK4 HPS
      generalize roomC 16 n' P12.named (.ok r) = S3 at hp3 hnr HC0 hsk3
      go_wp2_with fail
      refine (col_k hQ br gx wL.heap.size n' t' k' S3 _ hp3 hA3 h1 HSM.out hn16 hnr (hQ.sk (fun _ e => by cases e; exact HQR.out) hsk3)).mono ?_
      rintro e w10 ⟨t2, k2, n2, s4, rfl, hA10, hK10, hp10, hn10, hsk10, hsm10, hok10⟩
      go_wp2_with fail
      go_meet
      case rel => exact ⟨t2, k2, n2, s4, rfl, hp10, hA10, hK3.trans hK10, HC0.out _ _ hn10, hsk3.trans hsk10, hsm10, hok10⟩
theorem create_q_k {Q : P12.R → Prop} (hQ : ChkQ Q) (br : Nat) (s : PS) (w : World) (hr : Ps br s w) (hQs : ∀ r, s = .ok r → Q r) : Calls Tryz.prog 77 #[rp br] w (Cm br w s (StmtV w) P12.create) := by
 have HR := Lib.hid hr
 have lr := hr.lt
 clear hr
 have hbs : ∀ (b : Bool) (W : World), (Instr.build 46 #[(0, Value.int .i64 3), (5, Value.bool b)]).run Tryz.prog W = .ok (.agg (stmtL 3 [] nilS nilS nilS nilS [] [] b nilS nilS nilS noE nilS nilS noE nilS nilS 0).toArray) W := fun b W => by kernel_rfl
 have HB := Lib.hid hbs
 clear hbs
 go_enter Tryz.func77, Tryz.ntmps77
 go_wp2_with fail
 refine (may_k br s [84, 65, 66, 76, 69] (by decide) _ (HR.out.ext Xk.xt)).mono ?_
 rintro e w1 ⟨rfl, ht1, hp1⟩
 have hz1 := ht1.held (heap_new w _) (by omega)
 have hT1 : Turn br w w1 := Turn.trans (tu trivial) ht1
 have hT1' : Turn br (w.alloc (.cells zero37.toArray 46)) w1 := ht1
 have hs1 := (Array.getElem?_eq_some_iff.1 hz1).1
 clear ht1
 cases hb : (hasS [84, 65, 66, 76, 69] s).1
 case true =>
  go_wp2_with fail
  refine (table_k hQ br _ _ hp1 (hQ.sk hQs (P12.sk_has [84, 65, 66, 76, 69] s))).mono ?_
  rintro e w9 ⟨v, x, s9, rfl, ⟨l, rfl, hs⟩, ht9, hp9, hn9, hsk9⟩
  have hN := P12.nx_create_tab hb hn9
  have hS := (P12.sk_has [84, 65, 66, 76, 69] s).trans hsk9
  have hz9 := ht9.held hz1 (by omega)
  have hl37 := hs.length
  have HS := Lib.hid hs
  have HT9 := Lib.hid (Turn.trans hT1 ht9)
  have HP9 := Lib.hid hp9
  have hs9 := ht9.size
  clear hs ht9 hp9
  go_wp2_with ((refine wpList_putRow rfl 46 _ _ rfl (w.heap.size) _ _ 46 rfl rfl (hz9) ((by simp [hl37])) ((by simp only [List.size_toArray, hl37]; kernel_rfl)) (HS.out.one) ?_; intro w10 hp10))
  refine bodyPost_ret (results_row (fn := Tryz.f77) rfl rfl hp10.blk Tryz.underlying46 rfl (by simp only [List.size_toArray, hl37]; kernel_rfl)) rfl ?_
  exact ⟨_, x, s9, rfl, ⟨l, rfl, HS.out.keep (fun b hb _ => hp10.rest b (by omega)) (fun b hb _ => by omega)⟩, Puts.turn hp10 HT9.out (Nat.le_refl _), Puts.ps hp10 HP9.out lr, hN, hS⟩
 have hsk0 := Sk.refl s
 rw [(P12.hasS_no hb).1] at hp1
 go_wp2_with fail
 refine (may_k br s [85, 78, 73, 81, 85, 69] (by decide) _ hp1).mono ?_
 rintro e w2 ⟨rfl, ht2, hp2⟩
 have ht12 := Turn.trans hT1' ht2
 have hN0 := Lib.hid fun (x : P12.St) (s8 : PS) (h : Nx (P12.mkIdx (hasS [85, 78, 73, 81, 85, 69] s).1) (hasS [85, 78, 73, 81, 85, 69] s).2 x s8) => P12.nx_create_idx hb h
 have hsk2 := P12.sk_has [85, 78, 73, 81, 85, 69] s
 clear hb hz1 hT1 hT1' hs1 ht2 hp1
 generalize hasS [85, 78, 73, 81, 85, 69] s = q at hp2 hN0 hsk2 ⊢
 obtain ⟨u, s2⟩ := q
 dsimp only at hp2 hN0 hsk2 ⊢
 go_wp2_with (first | (refine wpList_builtF rfl 46 _ rfl _ rfl _ (HB.out _ _) ?_) | ((refine pw (heap_new w2 _) ?_; intro w3 hp3); have F3 := Dz.start lr ht12 hp2 hsk2 hp3))
 have hgz := F3.gzge
 have hzx := F3.zx
 clear hp3 ht12 hp2 hsk2 HB HR
 generalize w2.heap.size = gx at *
 refine (must_k br s2 [73, 78, 68, 69, 88] (by decide) _ F3.ps).mono ?_
 rintro e w4 ⟨rfl, ht4, hp4⟩
 have F4 := F3.step ht4 hp4 (P12.sk_must _ _)
 clear ht4 hp4 F3
 go_wp2_with fail
 refine (name_k br _ _ F4.ps).mono ?_
 rintro e w5 ⟨rfl, ht5, hp5⟩
 have F5 := F4.step ht5 hp5 (P12.sk_name _)
 have hNA := P12.nx_name (mustS [73, 78, 68, 69, 88] s2)
 clear ht5 hp5 F4
 generalize nameS (mustS [73, 78, 68, 69, 88] s2) = q at F5 hNA ⊢
 obtain ⟨a, s5⟩ := q
 dsimp only at F5 hNA ⊢
 have c5 := F5.cell (o := 6) rfl
 have f5 := F5.free 6
 have l5 := F5.size
 have F6 := (F5.set 6 (bs a)).cells (c' := (stmtL 3 [] nilS nilS nilS nilS a [] u nilS nilS nilS noE nilS nilS noE nilS nilS 0).toArray) rfl
 clear F5
 go_wp2_with fail
 refine (must_k br s5 [79, 78] (by decide) _ F6.ps).mono ?_
 rintro e w7 ⟨rfl, ht7, hp7⟩
 have F7 := F6.step ht7 hp7 (P12.sk_must _ _)
 clear ht7 hp7 F6 c5 f5 l5
 go_wp2_with fail
 refine (name_k br _ _ F7.ps).mono ?_
 rintro e w8 ⟨rfl, ht8, hp8⟩
 have F8 := F7.step ht8 hp8 (P12.sk_name _)
 have hNB := P12.nx_name (mustS [79, 78] s5)
 clear ht8 hp8 F7
 generalize nameS (mustS [79, 78] s5) = q at F8 hNB ⊢
 obtain ⟨b, s8⟩ := q
 dsimp only at F8 hNB ⊢
 have c8 := F8.cell (o := 7) rfl
 have f8 := F8.free 7
 have l8 := F8.size
 have F9 := (F8.set 7 (bs b)).cells (c' := (stmtL 3 [] nilS nilS nilS nilS a b u nilS nilS nilS noE nilS nilS noE nilS nilS 0).toArray) rfl
 clear F8
 go_wp2_with fail
 refine (mustSign_k br s8 [40] (by decide) _ F9.ps).mono ?_
 rintro e w10 ⟨rfl, ht10, hp10⟩
 have F10 := F9.step ht10 hp10 (P12.sk_must _ _)
 clear ht10 hp10 F9 c8 f8 l8
 go_wp2_with fail
 refine (names_k br _ _ F10.ps).mono ?_
 rintro e w11 ⟨v, l, s11, rfl, hsl, ht11, hp11, hn11, hsk11⟩
 obtain ⟨p1, p2, p3, rfl⟩ := slc_one hsl
 have F11 := (F10.step ht11 hp11 hsk11).add (stabP_strs l (.slice p1 p2 p3)) (F10.up (stabP_strs l (.slice p1 p2 p3)) hsl)
 have hNN := hN0.out _ _ (P12.nx_mkIdx hNA hNB (P12.nx_names hn11))
 have c11 := F11.cell (o := 9) rfl
 have f11 := F11.free 9
 have l11 := F11.size
 have F12 := (F11.set 9 (.slice p1 p2 p3)).cells (c' := (stmtL 3 [] nilS nilS nilS nilS a b u (.slice p1 p2 p3) nilS nilS noE nilS nilS noE nilS nilS 0).toArray) rfl
 clear ht11 hp11 hn11 hsk11 hsl F10 F11 hNA hNB hN0
 have hb12 := F12.blk
 have hz12 := F12.zero
 go_upto_region 10 with fail
 generalize w11.setCell ⟨gx, 9, none⟩ (.slice p1 p2 p3) = w12 at *
 clear c11 f11 l11
 go_wp2_with (first | (refine lw hb12 Tryz.underlying46 ?_) | (refine pw hz12 ?_; intro w13 hp13))
 refine bodyPost_ret (results_row (fn := Tryz.f77) rfl rfl hp13.blk Tryz.underlying46 rfl (by kernel_rfl)) rfl ?_
 refine Dz.finish (x := { P12.made 3 with unique := u, name := a, on := b, cols := l }) F12 hp13 (fun ⟨_, q⟩ => ?_) hNN
 exact ⟨nilS, nilS, nilS, nilS, _, nilS, nilS, noE, nilS, nilS, noE, nilS, nilS, rfl, SlcAt.nil _ _ _ _, SlcAt.nil _ _ _ _, SlcAt.nil _ _ _ _, SlcAt.nil _ _ _ _, q, SlcAt.nil _ _ _ _, SlcAt.nil _ _ _ _, rfl, SlcAt.nil _ _ _ _, SlcAt.nil _ _ _ _, rfl, SlcAt.nil _ _ _ _, SlcAt.nil _ _ _ _⟩
open _root_.P12 (PS Gd okB failS isK nextS Nx hasS mustS nameS isNameS roomS openS closeS elementS Sk inS Rw roomC inRow)
open _root_.P12 (PS Gd okB failS isK nextS Nx hasS mustS nameS isNameS roomS openS closeS elementS Sk inS Rw roomC inRow)
open _root_.P12 (PS Gd okB failS isK nextS Nx hasS mustS nameS isNameS roomS openS closeS elementS Sk inS Rw roomC inRow)
open _root_.P12 (PS Gd okB failS isK nextS Nx hasS mustS nameS isNameS roomS openS closeS elementS Sk inS Rw roomC inRow)
open _root_.P12 (PS Gd okB failS isK nextS Nx hasS mustS nameS isNameS roomS openS closeS elementS Sk inS Rw roomC inRow)
open _root_.P12 (PS Gd okB failS isK nextS Nx hasS mustS nameS isNameS roomS openS closeS elementS Sk inS Rw roomC inRow)
open _root_.P12 (PS Gd okB failS isK nextS Nx hasS mustS nameS isNameS roomS openS closeS elementS Sk inS Rw roomC inRow)
theorem refTokens_row (s : ByteArray) (l : List P11.Tok) (h : P11.lexed s.data.toList = .inl l) (w : World) :
  Calls Tryz.prog 30 #[.string s] w fun e w' => ∃ b cap, e = .returned (.tuple #[.slice (some ⟨b, 0, none⟩) l.length cap, .int .i64 0, .int .i64 0]) ∧ TkRow b 0 l w' ∧ l.length ≤ cap ∧ Below w.heap.size w w' := by
 refine (refTokens_at s w).mono ?_
 rintro e w' ⟨hb, ⟨l', v, h1, rfl, ⟨pa, cap', hv, hc⟩, ho⟩ | ⟨a, k, h1, -⟩⟩
 ·rw [h] at h1
  cases h1
  have hne := lexed_ne h
  obtain ⟨g, cap, rfl⟩ := ho hne
  cases hv
  have h0 : l[0]? = some (l[0]'(List.length_pos_iff.2 hne)) := List.getElem?_eq_getElem _
  obtain ⟨b, off, e1, c1, -, -, hcap⟩ := hc 0 _ h0
  cases e1
  refine ⟨g, _, rfl, ⟨World.block_lt_of_cell? w' _ c1, fun j t hj => ?_⟩, hcap, hb⟩
  obtain ⟨b', off', e, h2, h3, h4, -⟩ := hc j t hj
  cases e
  exact ⟨h2, h3, h4⟩
 ·rw [h] at h1; cases h1
theorem results_mix {tmps : Array Value} {w : World} {g : Nat} {l : List Value} {a k : Int} (hl : l.length = 37) (h0 : tmps.getD 2 undef = .pointer (some ⟨g, 0, none⟩)) (h1 : tmps.getD 3 undef = .int .i64 a) (h2 : tmps.getD 4 undef = .int .i64 k) (h : w.heap[g]? = some (stmtO l)) :
  (results Tryz.f11 tmps).run Tryz.prog w = .ok (.tuple #[.agg l.toArray, .int .i64 a, .int .i64 k]) w := by
 have e0 := run_loadVar_row (P := Tryz.prog) w g 46 46 l.toArray (0, 0) _ h Tryz.underlying46 rfl (by simp only [List.size_toArray, hl]; kernel_rfl)
 simp only [Array.getD_eq_getD_getElem?] at h0 h1 h2
 simp [results, Tryz.results11, h0, h1, h2, asAddr, e0]
def endS (s : PS) : PS := match s with
 | .error e => .error e
 | .ok r => if (P12.nxt r).kind ≠ 0 then failS 120 (.ok r) else .ok r
theorem parseToks_end {l : List P11.Tok} {x : P12.St} {s3 : PS} (h : Nx P12.statement (.ok ⟨l, 0⟩) x s3) : P12.parseToks l = match endS (hasS [59] s3).2 with
  | .error e => .error e
  | .ok _ => .ok x := by
 unfold Nx at h
 dsimp only at h
 unfold P12.parseToks
 cases hn : P12.statement ⟨l, 0⟩ with
 | error e =>
  rw [hn] at h
  have h : s3 = .error e := h
  subst h
  rfl
 | ok p =>
  obtain ⟨y, r⟩ := p
  rw [hn] at h
  obtain ⟨rfl, rfl⟩ := h
  show (let r := (P12.has [59] r).2; if (P12.nxt r).kind ≠ 0 then P12.fails 120 r else .ok x) = _
  unfold endS hasS
  dsimp only
  split <;> rfl
theorem refParse_ok (s : ByteArray) (l : List P11.Tok) (w : World) (h : P11.lexed s.data.toList = .inl l) (HST : ∀ br W, Ps br (.ok ⟨l, 0⟩) W → Calls Tryz.prog 31 #[rp br] W (Cm br W (.ok ⟨l, 0⟩) (StmtV W) P12.statement)) : Calls Tryz.prog 11 #[.string s] w (ParsePost w (P12.parseToks l)) := by
 have hgd := P12.lexed_gd h
 have hpos := hgd.good.pos
 have hlen := hgd.good.len
 dsimp only at hpos hlen
 have HGD := Lib.hid hgd
 have HT := Lib.hid fun W => refTokens_row s l h W
 have hbz : ∀ W : World, (Instr.build 46 #[]).run Tryz.prog W = .ok (.agg zero37.toArray) W := fun W => by kernel_rfl
 have HBZ := Lib.hid hbz
 generalize hres : P12.parseToks l = res
 have HRES := Lib.hid hres
 clear h hbz hgd hres
 go_enter Tryz.func11, Tryz.ntmps11
 go_wp2_with fail
 refine (HT.out _).mono ?_
 rintro e w1 ⟨b, cap, rfl, htk, hcap, hx1⟩
 have hz1 := (hx1.block _ (by rw [World.size_alloc]; omega)).trans (heap_new w (.cells zero37.toArray 46))
 have hX1 : Xk.Ext w w1 := Xk.Ext.trans (xal w _) hx1
 have hl1 := (Array.getElem?_eq_some_iff.1 hz1).1
 clear hx1
 go_wp2_with fail
 have hP2 : Ps w1.heap.size (.ok ⟨l, 0⟩) (w1.alloc (.cells #[.slice (some ⟨b, 0, none⟩) l.length cap, .int .i64 0, .int .i64 0, .int .i64 0, .int .i64 0] 79)) :=
  ⟨b, cap, l, 0, 0, 0, 0, ⟨heap_new w1 _, htk.1, hcap, htk.ext (xal w1 _), hpos, hlen⟩, rfl, rfl, rfl, HGD.out⟩
 have hX2 : Xk.Ext w (w1.alloc (.cells #[.slice (some ⟨b, 0, none⟩) l.length cap, .int .i64 0, .int .i64 0, .int .i64 0, .int .i64 0] 79)) := Xk.Ext.trans hX1 (xal w1 _)
 have hz2 := ((xal w1 (.cells #[.slice (some ⟨b, 0, none⟩) l.length cap, .int .i64 0, .int .i64 0, .int .i64 0, .int .i64 0] 79)).block _ hl1).trans hz1
 generalize w1.alloc (.cells #[.slice (some ⟨b, 0, none⟩) l.length cap, .int .i64 0, .int .i64 0, .int .i64 0, .int .i64 0] 79) = w2 at *
 generalize w1.heap.size = br at *
 have lbr := hP2.lt
 clear htk hcap hX1 hz1 HT HGD
 refine (HST br w2 hP2).mono ?_
 rintro e w3 ⟨v, x, s3, rfl, ⟨ls, rfl, hs⟩, ht3, hp3, hn3, -⟩
 have hE := HRES.out.symm.trans (parseToks_end hn3)
 have HE := Lib.hid hE
 have hl37 := hs.length
 have hs3 := ht3.size
 have hX3 := ext_turn hX2 ht3 (by omega)
 have hz3 := ht3.held hz2 (by omega)
 have HS := Lib.hid hs
 clear hE hs ht3 hn3 HRES hP2 hX2 hz2
 go_wp2_with ((refine wpList_putRow rfl 46 _ _ rfl (w3.heap.size) _ _ 46 rfl rfl (heap_new w3 (.cells zero37.toArray 46)) ((by simp [hl37])) ((by simp only [List.size_toArray, hl37]; kernel_rfl)) (HS.out.one) ?_; intro w4 hp4))
 have hX4 : Xk.Ext w w4 := ext_puts (Xk.Ext.trans hX3 (xal w3 _)) hp4 (by omega)
 have hz4 := (hp4.rest w.heap.size (by omega)).trans (((xal w3 _).block _ (by omega)).trans hz3)
 have hR4 := Puts.ps hp4 (hp3.ext (xal w3 _)) (by omega)
 have hS4 : StmtIn (fun b => w2.heap.size ≤ b ∧ b < w3.heap.size) w4 x ls := HS.out.keep (fun b hb hl => (hp4.rest b (by omega)).trans ((xal w3 _).block b hl)) (fun b hb hl => ⟨hb, hl⟩)
 have hb4 := hp4.blk
 have hs4 := hp4.size
 rw [World.size_alloc] at hs4
 clear hp4 hp3 HS hX3 hz3
 generalize hgx : w3.heap.size = gx at *
 clear hgx
 refine (maySign_k br s3 [59] (by decide) _ hR4).mono ?_
 rintro e w5 ⟨rfl, ht5, hp5⟩
 have hX5 := ext_turn hX4 ht5 (by omega)
 have hz5 := ht5.held hz4 (by omega)
 have hb5 := ht5.held hb4 (by omega)
 have hS5 : StmtIn (fun b => w2.heap.size ≤ b ∧ b < gx) w5 x ls := hS4.keep (fun b hb hl => ht5.block hl (by omega)) (fun b hb _ => hb)
 have HS5 := Lib.hid hS5
 have hs5 := ht5.size
 clear ht5 hX4 hz4 hb4 hS4 hR4 hS5
 generalize (hasS [59] s3).2 = s5 at hp5 HE
 have HO := Lib.hid fun W (hx : Xk.Ext w5 W) => ok_any br s5 W (hp5.ext hx)
 cases s5 with
 | error er =>
  have HP5 := Lib.hid hp5
  have hO : ∀ W, Xk.Ext w5 W → Calls Tryz.prog 33 #[rp br] W fun e w' => e = .returned (.bool false) ∧ W = w' := HO.out
  have HO := Lib.hid hO
  obtain ⟨b', cap', L, i, d, a, e', hA, -⟩ := hp5
  obtain ⟨l0, c0, c1, c2, c3, c4⟩ := hA.cells
  clear hO hA
  go_wp2_with fail
  refine Xk.reg 16 (Xk.w1 HO.out fun p => ?_)
  go_wp2_with fail
  have hp6 := HP5.out.ext (show Xk.Ext w5 (Xk.exw w5 p) from Xk.xt)
  have hX6 := Xk.Ext.trans hX5 (show Xk.Ext w5 (Xk.exw w5 p) from Xk.xt)
  have hz6 := ((show Xk.Ext w5 (Xk.exw w5 p) from Xk.xt).block _ (by omega)).trans hz5
  clear hX5 hz5 hb5 HP5 HO HS5 c0 c1 c2 c3 c4 l0
  generalize Xk.exw w5 p = w6 at *
  refine (ok_any br _ _ hp6).mono ?_
  rintro e w7 ⟨rfl, rfl⟩
  obtain ⟨b9, cap9, L9, i9, d9, a9, e9, hA9, hq1, hq2, hq3⟩ := hp6
  obtain ⟨l0, -, -, -, c3, c4⟩ := hA9.cells
  have hE : res = .error (er) := HE.out
  have HRE := Lib.hid hE
  have HQ1 := Lib.hid hq1
  have HQ2 := Lib.hid hq2
  clear HE hE hA9 hq1 hq2 hq3
  have hlz := (Array.getElem?_eq_some_iff.1 hz6).1
  obtain ⟨ks, hks⟩ : ∃ ks : Xe.Specs, ks = [(w.heap.size, fun o => o = some (stmtO zero37))] := ⟨_, rfl⟩
  have HKS := Lib.hid hks
  have hkb : ∀ k ∈ ks, k.1 = w.heap.size := fun k hk => by
   rw [hks] at hk
   simp only [List.mem_cons, List.not_mem_nil, or_false] at hk
   subst hk
   rfl
  have hq0 : ∀ W, Xe.ES ks w6.drew W → W.heap[w.heap.size]? = some (stmtO zero37) := fun W hx => by
   rcases hx.2.2.2.2 w.heap.size (by simpa using hlz) with e | ⟨k, hk, e1, e2⟩
   ·exact e.trans hz6
   ·rw [hks] at hk
    simp only [List.mem_cons, List.not_mem_nil, or_false] at hk
    subst hk
    exact e2
  have HF : Hid (∀ W, Xe.ES ks w6.drew W → br < W.heap.size ∧ W.cell? ⟨br, 3, none⟩ = some (.int .i64 a9) ∧ W.cell? ⟨br, 4, none⟩ = some (.int .i64 e9)) := Lib.hid fun W hx => by
   have hn : ∀ q ∈ ks, q.1 ≠ br := fun q hq e => by have := hkb q hq; omega
   have hs := hx.2.2.2.1
   simp only [World.size_drew] at hs
   exact ⟨by omega, hx.cell (show w6.drew.cell? ⟨br, 3, none⟩ = some _ from c3) hn, hx.cell (show w6.drew.cell? ⟨br, 4, none⟩ = some _ from c4) hn⟩
  have HQ0 := Lib.hid hq0
  have HX6 := Lib.hid hX6
  clear hks hq0 hX6 hz6
  go_upto_region 10 with fail
  refine Xe.wp_region_rel (E := Xe.ES ks) (Xe.pre_ES _) 12 (fun _ => none) (fun _ _ h => by cases h) (fun _ _ _ _ h => by cases h) [(9, Xe.blockFact w.heap.size (stmtO zero37))] (by kernel_rfl) (by kernel_rfl) (Xe.stable_es (by
     intro y hy
     simp only [List.mem_cons, List.not_mem_nil, or_false] at hy
     subst hy
     exact Xe.blockFact.es fun k hk e => by
      rw [HKS.out] at hk
      simp only [List.mem_cons, List.not_mem_nil, or_false] at hk
      subst hk
      rfl)) ?_
  simp only [List.take_succ_cons, List.take_zero, List.drop_succ_cons, List.drop_zero]
  repeat (refine Xs.s3 HF.out ?_)
  refine Xe.rel_make (Xe.pre_ES _) (by rfl) (by rfl) (fun W hx hp => ?_) (fun y K hK => ?_)
  ·exact Xe.store_row _ _ _ rfl w.heap.size zero37.toArray zero37.toArray _ rfl rfl (HQ0.out W hx) rfl (by kernel_rfl) (by kernel_rfl) (by rw [HKS.out]; exact List.mem_cons_self ..)
  go_simp
  refine hK _ ?_
  clear hK K
  repeat (refine Xs.s3 HF.out ?_)
  refine Xe.rel_nil (fun W hx hp hg => ?_)
  have r0 := HQ0.out W hx
  have hXW : Xk.Ext w W := ⟨hx.1.trans HX6.out.os, hx.2.1.trans HX6.out.tape, hx.2.2.1.trans HX6.out.output, by have := hx.2.2.2.1; have := HX6.out.size; simp at *; omega, fun b hb => (hx.block (w := w6.drew) (by have := HX6.out.size; simp; omega) (fun k hk e => by have := hkb k hk; omega)).trans (HX6.out.block b hb)⟩
  go_wp2_with fail
  refine bodyPost_ret (results_mix (l := zero37) rfl rfl rfl rfl r0) rfl ?_
  rw [HRE.out]
  refine ⟨hXW, ?_⟩
  show Ending.returned (.tuple #[.agg zero37.toArray, .int .i64 a9, .int .i64 e9]) = _
  rw [HQ1.out, HQ2.out]
 | ok r =>
  have HP5 := Lib.hid hp5
  have hO : ∀ W, Xk.Ext w5 W → Calls Tryz.prog 33 #[rp br] W fun e w' => e = .returned (.bool true) ∧ W = w' := HO.out
  have HO := Lib.hid hO
  obtain ⟨b', cap', L, i, d, a, e', hA, hs⟩ := hp5
  obtain ⟨l0, c0, c1, c2, c3, c4⟩ := hA.cells
  obtain ⟨t, ht, lb, t0, t1, t2⟩ := hA.tok
  have hi := hA.hi
  have hlenL := hA.len
  have hib : (i : Int) < (L.length : Int) := by omega
  have hnt := hs.tok ht
  clear hO hA hs ht
  by_cases hk : t.kind = 0
  ·have hkb : (t.kind != 0) = false := by simp [hk]
   have hE := HE.out
   rw [show endS (.ok r) = .ok r by unfold endS; dsimp only; rw [if_neg (by rw [hnt]; simpa using hk)]] at hE
   have hE : res = .ok x := hE
   have HRE := Lib.hid hE
   clear HE hE
   go_wp2_with fail
   refine Xk.reg 16 (Xk.w1 HO.out fun p => ?_)
   go_wp2_with fail
   have hp6 := HP5.out.ext (show Xk.Ext w5 (Xk.exw w5 p) from Xk.xt)
   have hX6 := Xk.Ext.trans hX5 (show Xk.Ext w5 (Xk.exw w5 p) from Xk.xt)
   have hz6 := ((show Xk.Ext w5 (Xk.exw w5 p) from Xk.xt).block _ (by omega)).trans hz5
   have hb6 := ((show Xk.Ext w5 (Xk.exw w5 p) from Xk.xt).block _ (by omega)).trans hb5
   have hS6 : StmtIn (fun b => w2.heap.size ≤ b ∧ b < gx) (Xk.exw w5 p) x ls := HS5.out.keep (fun b hb hl => (show Xk.Ext w5 (Xk.exw w5 p) from Xk.xt).block b hl) (fun b hb _ => hb)
   have HS6 := Lib.hid hS6
   clear hX5 hz5 hb5 HP5 HO HS5 c0 c1 c2 c3 c4 l0 t0 t1 t2 lb hS6
   generalize Xk.exw w5 p = w6 at *
   refine (ok_any br _ _ hp6).mono ?_
   rintro e w7 ⟨rfl, rfl⟩
   go_wp2_with (first | (refine wpList_loadRow rfl 46 _ rfl (gx) _ 46 (0, 0) _ rfl (hb6) Tryz.underlying46 rfl (by simp only [List.size_toArray, hl37]; kernel_rfl) ?_) | ((refine wpList_putRow rfl 46 _ _ rfl (w.heap.size) _ _ 46 rfl rfl (hz6) ((by simp [hl37])) ((by simp only [List.size_toArray, hl37]; kernel_rfl)) (HS6.out.one) ?_; intro w10 hp10)))
   refine bodyPost_ret (results_mix (l := ls) hl37 rfl rfl rfl hp10.blk) rfl ?_
   rw [HRE.out]
   exact ⟨ext_puts hX6 hp10 (Nat.le_refl _), ls, rfl, HS6.out.keep (fun b hb _ => hp10.rest b (by omega)) (fun b hb _ => by omega)⟩
  ·have hkb : (t.kind != 0) = true := by simpa using hk
   rw [show endS (.ok r) = .error ((P12.nxt r).pos, 120) by unfold endS; dsimp only; rw [if_pos (by rw [hnt]; simpa using hk)]; rfl] at HE
   go_wp2_with fail
   refine Xk.reg 16 (Xk.w1 HO.out fun p => ?_)
   go_wp2_with fail
   have hp6' := HP5.out.ext (show Xk.Ext w5 (Xk.exw w5 p) from Xk.xt)
   have hX6' := Xk.Ext.trans hX5 (show Xk.Ext w5 (Xk.exw w5 p) from Xk.xt)
   have hz6' := ((show Xk.Ext w5 (Xk.exw w5 p) from Xk.xt).block _ (by omega)).trans hz5
   clear hX5 hz5 hb5 HP5 HO HS5 c0 c1 c2 c3 c4 l0 t0 t1 t2 lb
   generalize Xk.exw w5 p = w7 at *
   refine (fail_k br _ 120 (by decide) _ hp6').mono ?_
   rintro e w6 ⟨rfl, ht6, hp6⟩
   have hX6 := ext_turn hX6' ht6 (by omega)
   have hz6 := ht6.held hz6' (by omega)
   clear ht6 hX6' hz6' hp6'
   go_wp2_with fail
   refine (ok_any br _ _ hp6).mono ?_
   rintro e w7 ⟨rfl, rfl⟩
   obtain ⟨b9, cap9, L9, i9, d9, a9, e9, hA9, hq1, hq2, hq3⟩ := hp6
   obtain ⟨l0, -, -, -, c3, c4⟩ := hA9.cells
   have hE : res = .error (((P12.nxt r).pos, 120)) := HE.out
   have HRE := Lib.hid hE
   have HQ1 := Lib.hid hq1
   have HQ2 := Lib.hid hq2
   clear HE hE hA9 hq1 hq2 hq3
   have hlz := (Array.getElem?_eq_some_iff.1 hz6).1
   obtain ⟨ks, hks⟩ : ∃ ks : Xe.Specs, ks = [(w.heap.size, fun o => o = some (stmtO zero37))] := ⟨_, rfl⟩
   have HKS := Lib.hid hks
   have hkb : ∀ k ∈ ks, k.1 = w.heap.size := fun k hk => by
    rw [hks] at hk
    simp only [List.mem_cons, List.not_mem_nil, or_false] at hk
    subst hk
    rfl
   have hq0 : ∀ W, Xe.ES ks w6.drew W → W.heap[w.heap.size]? = some (stmtO zero37) := fun W hx => by
    rcases hx.2.2.2.2 w.heap.size (by simpa using hlz) with e | ⟨k, hk, e1, e2⟩
    ·exact e.trans hz6
    ·rw [hks] at hk
     simp only [List.mem_cons, List.not_mem_nil, or_false] at hk
     subst hk
     exact e2
   have HF : Hid (∀ W, Xe.ES ks w6.drew W → br < W.heap.size ∧ W.cell? ⟨br, 3, none⟩ = some (.int .i64 a9) ∧ W.cell? ⟨br, 4, none⟩ = some (.int .i64 e9)) := Lib.hid fun W hx => by
    have hn : ∀ q ∈ ks, q.1 ≠ br := fun q hq e => by have := hkb q hq; omega
    have hs := hx.2.2.2.1
    simp only [World.size_drew] at hs
    exact ⟨by omega, hx.cell (show w6.drew.cell? ⟨br, 3, none⟩ = some _ from c3) hn, hx.cell (show w6.drew.cell? ⟨br, 4, none⟩ = some _ from c4) hn⟩
   have HQ0 := Lib.hid hq0
   have HX6 := Lib.hid hX6
   clear hks hq0 hX6 hz6
   go_upto_region 10 with fail
   refine Xe.wp_region_rel (E := Xe.ES ks) (Xe.pre_ES _) 12 (fun _ => none) (fun _ _ h => by cases h) (fun _ _ _ _ h => by cases h) [(9, Xe.blockFact w.heap.size (stmtO zero37))] (by kernel_rfl) (by kernel_rfl) (Xe.stable_es (by
       intro y hy
       simp only [List.mem_cons, List.not_mem_nil, or_false] at hy
       subst hy
       exact Xe.blockFact.es fun k hk e => by
        rw [HKS.out] at hk
        simp only [List.mem_cons, List.not_mem_nil, or_false] at hk
        subst hk
        rfl)) ?_
   simp only [List.take_succ_cons, List.take_zero, List.drop_succ_cons, List.drop_zero]
   repeat (refine Xs.s3 HF.out ?_)
   refine Xe.rel_make (Xe.pre_ES _) (by rfl) (by rfl) (fun W hx hp => ?_) (fun y K hK => ?_)
   ·exact Xe.store_row _ _ _ rfl w.heap.size zero37.toArray zero37.toArray _ rfl rfl (HQ0.out W hx) rfl (by kernel_rfl) (by kernel_rfl) (by rw [HKS.out]; exact List.mem_cons_self ..)
   go_simp
   refine hK _ ?_
   clear hK K
   repeat (refine Xs.s3 HF.out ?_)
   refine Xe.rel_nil (fun W hx hp hg => ?_)
   have r0 := HQ0.out W hx
   have hXW : Xk.Ext w W := ⟨hx.1.trans HX6.out.os, hx.2.1.trans HX6.out.tape, hx.2.2.1.trans HX6.out.output, by have := hx.2.2.2.1; have := HX6.out.size; simp at *; omega, fun b hb => (hx.block (w := w6.drew) (by have := HX6.out.size; simp; omega) (fun k hk e => by have := hkb k hk; omega)).trans (HX6.out.block b hb)⟩
   go_wp2_with fail
   refine bodyPost_ret (results_mix (l := zero37) rfl rfl rfl rfl r0) rfl ?_
   rw [HRE.out]
   refine ⟨hXW, ?_⟩
   show Ending.returned (.tuple #[.agg zero37.toArray, .int .i64 a9, .int .i64 e9]) = _
   rw [HQ1.out, HQ2.out]
open _root_.P12 (PS Gd okB failS isK nextS Nx hasS mustS nameS isNameS roomS openS closeS elementS Sk inS Rw roomC inRow)
theorem statementC_k (br : Nat) (s : PS) (w : World) (hr : Ps br s w) (hc : (hasS [67, 82, 69, 65, 84, 69] s).1 = true) (hn0 : ∀ r, s = .ok r → P12.NoC r) : Calls Tryz.prog 31 #[rp br] w (Cm br w s (StmtV w) P12.statement) := by
 have HG := Lib.hid hr.gds
 have HR := Lib.hid hr
 have lr := hr.lt
 clear hr
 go_enter Tryz.func31, Tryz.ntmps31
 go_upto_region 1 with fail
 have hz := heap_new w (.cells zero37.toArray 46)
 have hT : Turn br w (w.alloc (.cells zero37.toArray 46)) := tu trivial
 have hp := HR.out.ext (xal w (.cells zero37.toArray 46))
 clear HR
 go_wp2_with fail
 refine (may_k br s [67, 82, 69, 65, 84, 69] (by decide) _ hp).mono ?_
 rintro e wB ⟨rfl, ht, hpB⟩
 replace hz := ht.held hz (by omega)
 replace hT := Turn.trans hT ht
 have hsB := (Array.getElem?_eq_some_iff.1 hz).1
 clear ht hp
 rw [hc]
 go_wp2_with fail
 refine (create_q_k chkQ_no br _ _ hpB (chkQ_no.sk hn0 (P12.sk_has _ s))).mono ?_
 rintro e w9 ⟨v, x, s9, rfl, ⟨l, rfl, hs⟩, ht9, hp9, hn9, hsk9⟩
 have hN : Nx P12.statement s x s9 := P12.nx_stmtG HG.out (by unfold P12.stmtG; exact P12.nx_yes hc hn9)
 have hS := (P12.sk_has [67, 82, 69, 65, 84, 69] s).trans hsk9
 have hz9 := ht9.held hz (by omega)
 have hl37 := hs.length
 have HS := Lib.hid hs
 have HT9 := Lib.hid (Turn.trans hT ht9)
 have HP9 := Lib.hid hp9
 have hs9 := ht9.size
 clear hs ht9 hp9
 go_wp2_with ((refine wpList_putRow rfl 46 _ _ rfl (w.heap.size) _ _ 46 rfl rfl (hz9) ((by simp [hl37])) ((by simp only [List.size_toArray, hl37]; kernel_rfl)) (HS.out.one) ?_; intro w10 hp10))
 refine bodyPost_ret (results_row (fn := Tryz.f31) rfl rfl hp10.blk Tryz.underlying46 rfl (by simp only [List.size_toArray, hl37]; kernel_rfl)) rfl ?_
 exact ⟨_, x, s9, rfl, ⟨l, rfl, HS.out.keep (fun b hb _ => hp10.rest b (by omega)) (fun b hb _ => by omega)⟩, Puts.turn hp10 HT9.out (Nat.le_refl _), Puts.ps hp10 HP9.out lr, hN, hS⟩
theorem refParseC_any (s : ByteArray) (w : World) (h : P12.isCr s.data.toList = true) : Calls Tryz.prog 11 #[.string s] w (ParsePost w (P12.parse s.data.toList)) := by
 obtain ⟨l, hl, h2, ht, hn⟩ := P12.isCr_out h
 unfold P12.parse
 rw [hl]
 exact refParse_ok s l w hl fun br W hr => statementC_k br _ W hr (by simp [hasS, P12.has, P12.isT, h2, ht]) (fun r e => by cases e; exact hn)
end Go.Proofs.YtlpcdpkgnfdpeaaGreatDoor
