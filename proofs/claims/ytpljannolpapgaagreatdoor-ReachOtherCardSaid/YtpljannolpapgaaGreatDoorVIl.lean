/- Ranges of maps of any kind: some, Scan, Back, Count: the walks. -/
import Derived.Test.YtpljannolpapgaaGreatDoorVIk
set_option maxRecDepth 100000
namespace Go.Proofs.YtpljannolpapgaaGreatDoor
open Go.RowKit Tryz Go.BigFrame Go.Maps Go.WideMaps Lf Tr
open Go.Shelf
attribute [local go_sem] Oper.semAt_some
def FJ(l:List Pr):List Value:=l.flatMap fun p=>[SV p.1,SV p.2]
