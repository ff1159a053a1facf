/- A name for what a walk may not look into. -/
import Derived.Lib.Hide
namespace Go
theorem lh {p:Prop} (h:p):RowKit.Hid p:=h
end Go
