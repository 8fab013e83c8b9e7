/- Ranges of maps of any l_: places, along, its iterator's contract: the walks. -/
import Derived.Test.YtpljannolpapgaaGreatDoorRIb
set_option maxRecDepth 100000
namespace Go.Proofs.YtpljannolpapgaaGreatDoor
open Go.RowKit Tryz Go.BigFrame Go.Maps Go.WideMaps Lf Tr
open Go.Shelf
attribute [local go_sem] Oper.semAt_some
abbrev Pr:=List UInt8×List UInt8
structure FL (n bo:Nat) (W W':World):Prop where
 size:W.1.size<=W'.1.size
 block:∀k,k<n->k≠bo->W'.1[k]?=W.1[k]?
theorem fi.kp {P:List (List UInt8×List UInt8)->Prop}{K:jo}(ok:gB K P){w W W':World}{ps pm px A_ f9:Nat}{S:St}{Y:Nat->Prop}{L:List (List UInt8×List UInt8)}(h:fi K w W ps pm px A_ f9 S Y L){bo:Nat}{v:Value}{fr:Nat×Nat}(hy:Y bo)(hb:W.1[bo]?=some (.cells #[v] 22 fr))(nm:pm≠bo)(nx:px≠bo)(hk:FL W.1.size bo W W'):fi K { W' with heap:=#[] } W' ps pm px A_ f9 S Y L:=
 ⟨h.st.write hy hb ⟨d_,d_⟩ s_ hk.size hk.block,h.hold,ok.onAt h.on (hk.block px (ok.onLt h.on) nx),(hk.block pm (gl h.map) nm).T h.map,⟨rfl,rfl,rfl,cC _,fun k hk=>absurd hk s_⟩,fun k hk=>absurd hk s_,h.yx,h.ym,cC _,cC _,h.ne⟩
