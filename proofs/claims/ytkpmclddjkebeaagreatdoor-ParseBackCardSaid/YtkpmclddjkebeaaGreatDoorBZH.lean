/- Walks: a DELETE is one, and its print; pantilelaw12.ParseNumbers. -/
import Derived.Test.YtkpmclddjkebeaaGreatDoorBZB
set_option linter.unusedSimpArgs false
set_option linter.unusedVariables false
set_option maxRecDepth 100000
set_option maxHeartbeats 8000000
open Go.Proofs.Tryz renaming prog→ab
open List renaming length_append→aB
namespace Go.Proofs.YtkpmclddjkebeaaGreatDoor
open Go.RowKit
theorem La(x:P12.St)(hs:P12.isS x)(hk:x.kind=7)(S:Nat->Prop)(w:World)(l:List Value)(h:dn S w x l):Calls ab 14 #[.agg l.toArray] w λe w'=>e = .returned (.bool true)/\Xk.Ext w w':=by
 obtain⟨hwm,hjm⟩:=oF hs;obtain⟨tc,tk,tq,kc,cols,rows,sets,wh,items,frm,jn,grp,ord,h⟩:=h;have hSame:=λW=>vE h hwm hjm W;obtain⟨hx,ho⟩:=hs
 have h1:P12.isName x.name=true:=by
  rcases ho with⟨hk',-⟩|⟨hk',-⟩|⟨hk',-⟩|⟨hk',-⟩|⟨hk',-⟩|⟨hk',-⟩|⟨hk',h,-⟩|⟨hk',-⟩|hk'|hk'|hk'
  all_goals first|exact h|(exfalso;omega)
 have hl:=AL h hx hk;have hm:=λW (hx':Xk.Ext w W)=>mK x.wher hwm S W wh (aF.ik h.wh hx');obtain⟨k1,o1,vk1,vi1,vs1,tb1,nm1,q1,m1,d1,rfl⟩:=h.wh.form;exact Fh _ hk _ h1 k1 o1 vk1 vi1 vs1 tb1 nm1 q1 m1 d1 w l hl hm (λW=>ye _ hk _ k1 o1 vk1 vi1 vs1 tb1 nm1 q1 m1 d1 l hl W) hSame
theorem xE{S:Nat->Prop}{w:World}{x:P12.St}{l:List Value}(hs:P12.isS x)(hk:x.kind=7)(hE:Env w)(h:dn S w x l)(hb:(P12.print x).length≤1000000):
  Calls ab 15 #[.agg l.toArray] w λr w'=>r = .returned (.tuple #[bs (P12.print x),.int .i64 0])/\Xk.Ext w w':=by
 have hp:P12.print x = [68,69,76,69,84,69,32,70,82,79,77,32]++x.name++P12.dG x.wher:=by unfold P12.print;rw[if_neg (by omega),if_neg (by omega),if_neg (by omega),if_neg (by omega),if_neg (by omega),if_neg (by omega),if_pos hk]
 rw[hp]at hb ⊢;rw[aB,aB]at hb;obtain⟨hwm,hjm⟩:=oF hs;have hI:∀W,Xk.Ext w W->Calls ab 14 #[.agg l.toArray] W λe w'=>e = .returned (.bool true)/\Xk.Ext W w':=λW hx=>La x hs hk S W l (h.at hx);obtain⟨tc,tk,tq,kc,cols,rows,sets,wh,items,frm,jn,grp,ord,h⟩:=h;have hl:=AL h hs.1 hk;have hW:=λW (hx:Xk.Ext w W)=>sA hE h.wh hwm (by omega) hx;obtain⟨k1,o1,vk1,vi1,vs1,tb1,nm1,q1,m1,d1,rfl⟩:=h.wh.form;exact CK _ hk _ (by omega) k1 o1 vk1 vi1 vs1 tb1 nm1 q1 m1 d1 l hl w _ (by omega) hW hI
end Go.Proofs.YtkpmclddjkebeaaGreatDoor
