/- From a walk to the row: what every statement of this seat shares. -/
import Derived.Test.YtkpmclddjkebeaaGreatDoorRI
import Derived.Stop.LaidErr
import Derived.ProofKit
import Derived.Deep.DeepHandedRow
import Derived.Lib.LaidU8
import Derived.Lay
import Derived.LaidHandle
import Derived.OpenShut
set_option linter.unusedSimpArgs false
set_option linter.unusedVariables false
set_option maxRecDepth 100000
set_option maxHeartbeats 80000000
open Bool renaming and_eq_true→aT
open Go.DataW renaming TrodAll→BR
open Go.Proofs.Tryz renaming prog→af,underlying3→jB,underlying9→ef
open Go.World renaming cell?→ak,laidAll→jb
open Option.some renaming inj→iy
namespace Go.Proofs.YtkpmclddjkebeaaGreatDoor
open Go.ChangeShapes Go.WideShapes Go.ChangeAt Go.RowKit
theorem Tryz.own:ownKnob af.godebug=none:=au
theorem Tryz.laidOut:laidOutB af=true:=au
theorem oO{H:Type}{enc:TypeId×Value->H}{P:Program}(hl:laidOutB P=true){W W':World}(hb:Below W.heap.size W W'):
  ∀ {ts:List TypeId} {vs:List Value} {ds:List (DataW H)} {ps:List MemPlace},ts.all (λt=>P.readableRec t&&decide (t<P.types.size))=true ->
   BR enc P W 0 (λ_=>true) true ts vs ds ps->BR enc P W' 0 (λb=>decide (b<W.heap.size)) true ts vs ds ps
 | [],[],[],_,_,h=>h
 | t::ts,v::vs,d::ds,ps,hr,h=>by
  have hlt:=h.lt;obtain⟨p,q,h1,h2,rfl⟩:=h;simp only[List.all_cons,aT,decide_eq_true_eq]at hr;exact⟨p,q,Below.trod hl hr.1.1 hr.1.2 h1 hb (λx hx=>hlt x (List.mem_append_left _ hx)),oO hl hb hr.2 h2,rfl⟩
 | [],[],_::_,_,_,h=>h.elim
 | [],_::_,_,_,_,h=>h.elim
 | _::_,[],_,_,_,h=>h.elim
 | _::_,_::_,[],_,_,h=>h.elim
theorem Db{H:Type}{enc:TypeId×Value->H}{f:Func}{s:ChangeSpec}{W W':World}{args:Array Value}{ds:List (DataW H)}{before p:List MemPlace}
  (hs:s.vars = []) (hfn:s.fn H (ds ++ []) = { results := [.lit (.bool true)],args:=ds }) (hr:f.resultTypes = #[4])
  (ht:f.params.toList.all (λt=>af.readableRec t&&decide (t<af.types.size))=true)
  (hW:DataW.Whole enc af f.params.toList s.vars false W args.toList ds [] before) (hA:BR enc af W 0 (λ_=>true) true f.params.toList args.toList ds p)
  (hb:Below W.heap.size W W'):s.post enc af f false true false false W args (.bool true) W':=by
 refine⟨ds,[],before,[],p,[],hW,?_,?_,?_,hb.frame _,λh=>by cases h⟩
 ·rw[hfn,hr];exact trodAll_mk1 (shut_bool Tryz.underlying4 true)
 ·rw[hfn];exact oO Tryz.laidOut hb ht hA
 ·rw[hfn,hs];rfl
theorem Tryz.star : "*" ++ "errors.errorString" = "*errors.errorString" := aq
theorem Tryz.GR (u : TypeId) (h : Tryz.prog.typeName? 3 u = some "*errors.errorString") : u = 289 :=
 typeName_ptr_named (nm := "errors.errorString") (by rw [Tryz.star]; kernel_rfl) au aq u (by rw [Tryz.star]; exact h)
theorem Tryz.DR:af.cellsOf 291=1:=au
theorem Tryz.DQ:af.cellsOf 9=1:=au
theorem Tryz.Jf : Tryz.prog.globalNamed "strconv.ErrRange" = some 6 := au
theorem Tryz.DH:(af.globals[6]?).map (·.type)=some 199:=au
theorem JV {n : String} {g : Nat} {text : List UInt8} {r : List (String × DataW Unit)} {W : World} (h : laidMet Tryz.prog ((n, .iface "*errors.errorString" (.ptr (.agg [.lit (.string text)]))) :: r) W)
  (hg:af.globalNamed n=some g) (ht:(af.globals[g]?).map (·.type)=some 199):∃tp p,W.var? af n=some #[.iface tp p]:=by
 obtain⟨a,s,hv,-⟩:=laid_sentinel h hg ht Tryz.underlying199 Tryz.GR Tryz.underlying289 Tryz.underlying291 rfl rfl ef Tryz.DR Tryz.DQ;exact⟨_,_,hv⟩
theorem IL {W : World} {laid : List (String × DataW Unit)} (hm : ("internal/strconv.uint64pow10", Rows.laid_internal_strconv_uint64pow10) ∈ laid) (h : laidMet Tryz.prog laid W) (hs : W.ShapedOpen Tryz.prog) : Env W := by
 refine⟨?_,?_⟩
 ·obtain⟨g,t,cs,fuel,p,h1,h2,h3,h4⟩:=Lib.laidMet.reads h hm;obtain rfl:=iy (Tryz.FO.symm.trans h1);obtain rfl:=iy ((show(af.globals[2]?).map (·.type)=some 259 by kernel_rfl).symm.trans h2);have e:(Rows.laid_internal_strconv_uint64pow10:DataW Unit)=Lib.tabData .u64 Lib.pow10Tab:=au;rw[e]at h4;unfold Lib.TabIs;rw[h3,← Lib.cells_of_tab Tryz.underlying259 Tryz.underlying185 au au h4]
 ·exact cell_of_shapedOpen_int (t:=3) (zero := #[.int .i64 0]) hs (of_decide_eq_true au) au rfl au au jB
theorem JW {W : World} {a b c d e f g h : String × DataW Unit} (hl : c = ("internal/strconv.uint64pow10", Rows.laid_internal_strconv_uint64pow10)) (he : e = ("strconv.ErrRange", Rows.laid_strconv_ErrRange))
  (hm:laidMet af [a,b,c,d,e,f,g,h] W) (hs:W.ShapedOpen af):Env W/\zV W:=by
 subst hl;subst he;refine⟨IL (laid := [a,b,_,d,_,f,g,h]) aI hm hs,?_⟩;obtain⟨tp,p,hv⟩:=JV hm.tail.tail.tail.tail Tryz.Jf Tryz.DH;refine⟨tp,p,?_⟩;unfold World.var? at hv;simp only[Tryz.Jf,Option.bind_some]at hv;unfold ak
 cases hb:W.heap[6]? with
 | none=>rw[hb]at hv;simp at hv
 | some o=>
  rw[hb]at hv
  cases o<;>simp at hv;subst hv;rfl
theorem xG{H:Type}{enc:TypeId×Value->H}(os:Os){f:FuncId}{fn:Func}{s:OpenSpec}{laid:List (String×DataW Unit)}(args:Array Value)(x:List (DataW H)×List (DataW H)×List MemPlace)
  (hv:((jb af os laid).forCall (λ_ _=>0) ⟨#[],args,[]⟩).variablesZipB af=true)
  (hr:(((jb af os laid).forCall (λ_ _=>0) ⟨#[],args,[]⟩).heap.toList.drop af.globals.size).take ((begin af (λ_ _=>0) default).world.heap.size-af.globals.size) =
   (begin af (λ_ _=>0) default).world.heap.toList.drop af.globals.size)
  (hok:Input.okWideB af ((jb af os laid).forCall (λ_ _=>0) ⟨#[],args,[]⟩) f ⟨#[],args,[]⟩=true)
  (hx:DataW.whole enc af ((jb af os laid).forCall (λ_ _=>0) ⟨#[],args,[]⟩).memory fn.params.toList s.vars false args.toList 8=some x)
  (hkk:∀k,s.cond=some k->k H (x.1++x.2.1)=true)
  (hsz:s.bare.sizedB enc af fn false ((jb af os laid).forCall (λ_ _=>0) ⟨#[],args,[]⟩).memory args 8=true)
  (hf:(World.holding af os ⟨#[],#[],[]⟩).layFits af laid []=true)
  (hi:(World.holding af os ⟨#[],#[],[]⟩).layIfaces af laid (jb af os laid)=true)
  (hp:(laid.filter λx=>x.2.handleName?.isSome) = []) :
  ∃ (w:World) (tape:Tape) (i:Input),w.os=os/\(w.forCall tape i).Shaped af/\i.vars = []/\Input.okWide af (w.forCall tape i) .any w.heap.size f i /\
   s.preRow enc af fn [] false laid (w.forCall tape i).memory i.args/\({}:Assume).holds af (lone (Frame.enter af f i.args .normal) [] (w.forCall tape i)):=by
 refine⟨jb af os laid,λ_ _=>0,⟨#[],args,[]⟩,World.laidAll_os _ _ _,World.shaped_of_ZipB hv hr,(Input.okWide_of_okWideB (base:=0) hok).1,(Input.okWide_of_okWideB hok).2,OpenSpec.preRow_of_cond 8 hx rfl hkk hsz ?_,?_⟩
 ·unfold laidMetH;rw[hp];exact laidMet_laidAll args hf hi
 ·simp only[Assume.holds];exact⟨by simp,by simp,by simp,by simp,by simp⟩
end Go.Proofs.YtkpmclddjkebeaaGreatDoor
